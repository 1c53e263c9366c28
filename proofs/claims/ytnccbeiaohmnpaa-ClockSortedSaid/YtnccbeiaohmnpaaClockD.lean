/-
  Contracts of clock's and the reference's sums, differences, products, and of what is over when.
-/
import Derived.Test.YtnccbeiaohmnpaaClockC
namespace Go.Proofs.Ytnccbeiaohmnpaa
open Go.RowKit

theorem addR_c (a b : Int) (w : World) (ha : 0 ≤ a) (hb : 0 ≤ b) : Calls Try.prog 20 #[.int .u64 a, .int .u64 b] w fun e w' => e = .returned (.int .u64 (Clk.addF a b)) ∧ w = w' := by
  obtain ⟨ta0, ta1⟩ := Clk.topF_b a ha
  obtain ⟨tb0, tb1⟩ := Clk.topF_b b hb
  unfold Clk.addF
  generalize hx : Clk.topF a = x at *
  generalize hy : Clk.topF b = y at *
  have Hx := Lib.hid hx; clear hx
  have Hy := Lib.hid hy; clear hy
  go_enter Try.func20, Try.ntmps20
  go_wp2_with fail
  refine (topR_c a w).mono ?_
  rw [Hx.out]
  rintro e w1 ⟨rfl, rfl⟩
  go_wp2_with fail
  refine (topR_c b w).mono ?_
  rw [Hy.out]
  rintro e w1 ⟨rfl, rfl⟩
  go_wp2_with fail
  refine (topR_c _ w).mono ?_
  rintro e w1 ⟨rfl, rfl⟩
  go_wp2
  go_ret
  exact ⟨rfl, rfl⟩

namespace Clk
theorem subF_hi {a : Int} (b : Int) (h : 4611686018427387903 ≤ a) : subF a b = 4611686018427387903 := by unfold subF; rw [if_pos h]
theorem subF_le {a b : Int} (h : a < 4611686018427387903) (k : a ≤ b) : subF a b = 0 := by unfold subF; rw [if_neg (by omega), if_pos k]; omega
theorem subF_gt {a b : Int} (h : a < 4611686018427387903) (k : b < a) : subF a b = a - b := by unfold subF; rw [if_neg (by omega), if_neg (by omega)]
end Clk

theorem sub_c (a b : Int) (w : World) (ha : 0 ≤ a) (hb : 0 ≤ b) (hb2 : b ≤ 18446744073709551615) : Calls Try.prog 17 #[.int .u64 a, .int .u64 b] w fun e w' => e = .returned (.int .u64 (Clk.subF a b)) ∧ w = w' := by
  by_cases h : 4611686018427387903 ≤ a
  · rw [Clk.subF_hi b h]
    go_enter Try.func17, Try.ntmps17
    go_wp2
    go_ret
    exact ⟨rfl, rfl⟩
  · by_cases k : a ≤ b
    · rw [Clk.subF_le (by omega) k]
      go_enter Try.func17, Try.ntmps17
      go_wp2
      go_ret
      exact ⟨retI (by omega), rfl⟩
    · rw [Clk.subF_gt (by omega) (by omega)]
      go_enter Try.func17, Try.ntmps17
      go_wp2
      go_ret
      exact ⟨retI (by omega), rfl⟩

theorem subR_c (a b : Int) (w : World) (ha : 0 ≤ a) (hb : 0 ≤ b) (hb2 : b ≤ 18446744073709551615) : Calls Try.prog 21 #[.int .u64 a, .int .u64 b] w fun e w' => e = .returned (.int .u64 (Clk.subF a b)) ∧ w = w' := by
  by_cases h : 4611686018427387903 ≤ a
  · rw [Clk.subF_hi b h]
    have ht := Clk.topF_hi h
    have Ht := Lib.hid ht; clear ht
    go_enter Try.func21, Try.ntmps21
    go_wp2_with (go_at_call 34; refine (topR_c a w).mono ?_; rw [Ht.out]; rintro e w1 ⟨rfl, rfl⟩)
    go_ret
    exact ⟨rfl, rfl⟩
  · have ht : Clk.topF a = a := Clk.topF_lo (by omega)
    have Ht := Lib.hid ht; clear ht
    have hne : (a == 4611686018427387903) = false := by simp; omega
    obtain ⟨tb0, tb1⟩ := Clk.topF_b b hb
    by_cases k : a ≤ b
    · rw [Clk.subF_le (by omega) k]
      have k' : a ≤ Clk.topF b := by unfold Clk.topF; split <;> omega
      generalize hy : Clk.topF b = y at *
      have Hy := Lib.hid hy; clear hy
      go_enter Try.func21, Try.ntmps21
      go_wp2_with fail
      refine (topR_c a w).mono ?_; rw [Ht.out]; rintro e w1 ⟨rfl, rfl⟩
      go_wp2_with fail
      refine (topR_c b w).mono ?_; rw [Hy.out]; rintro e w1 ⟨rfl, rfl⟩
      go_wp2
      go_ret
      exact ⟨rfl, rfl⟩
    · rw [Clk.subF_gt (by omega) (by omega)]
      have k' : Clk.topF b < a := by unfold Clk.topF; split <;> omega
      generalize hy : Clk.topF b = y at *
      have Hy := Lib.hid hy; clear hy
      go_enter Try.func21, Try.ntmps21
      go_wp2_with fail
      refine (topR_c a w).mono ?_; rw [Ht.out]; rintro e w1 ⟨rfl, rfl⟩
      go_wp2_with fail
      refine (topR_c b w).mono ?_; rw [Hy.out]; rintro e w1 ⟨rfl, rfl⟩
      go_wp2
      go_ret
      exact ⟨retI (by omega), rfl⟩

namespace Clk
theorem mulF_hi {a b : Int} (h : 0 < topF b) (k : 4611686018427387903 / topF b < topF a) : mulF a b = 4611686018427387903 := by unfold mulF; rw [if_pos ⟨h, k⟩]
theorem mulF_lo {a b : Int} (h : ¬ (0 < topF b ∧ 4611686018427387903 / topF b < topF a)) : mulF a b = topF a * topF b := by unfold mulF; rw [if_neg h]
theorem mul_b {x y : Int} (hx : 0 ≤ x) (hy : 0 ≤ y) (h : ¬ (0 < y ∧ 4611686018427387903 / y < x)) : 0 ≤ x * y ∧ x * y ≤ 4611686018427387903 := by
  refine ⟨Int.mul_nonneg hx hy, ?_⟩
  rcases Int.lt_or_le 0 y with hy0 | hy0
  · have h1 : x ≤ 4611686018427387903 / y := by omega
    have h2 := Int.mul_le_mul_of_nonneg_right h1 hy
    have h3 := Int.ediv_mul_le 4611686018427387903 (b := y) (by omega)
    omega
  · obtain rfl : y = 0 := by omega
    simp
theorem mulF_b (a b : Int) (ha : 0 ≤ a) (hb : 0 ≤ b) : 0 ≤ mulF a b ∧ mulF a b ≤ 4611686018427387903 := by
  unfold mulF
  have h1 := topF_b a ha
  have h2 := topF_b b hb
  split
  · decide
  · rename_i h; exact mul_b h1.1 h2.1 h
end Clk

theorem mul_c (a b : Int) (w : World) (ha : 0 ≤ a) (hb : 0 ≤ b) : Calls Try.prog 22 #[.int .u64 a, .int .u64 b] w fun e w' => e = .returned (.int .u64 (Clk.mulF a b)) ∧ w = w' := by
  obtain ⟨ta0, ta1⟩ := Clk.topF_b a ha
  obtain ⟨tb0, tb1⟩ := Clk.topF_b b hb
  by_cases h : 0 < Clk.topF b ∧ 4611686018427387903 / Clk.topF b < Clk.topF a
  · obtain ⟨h1, h2⟩ := h
    rw [Clk.mulF_hi h1 h2]
    generalize hx : Clk.topF a = x at *
    generalize hy : Clk.topF b = y at *
    have Hx := Lib.hid hx; clear hx
    have Hy := Lib.hid hy; clear hy
    go_enter Try.func22, Try.ntmps22
    go_wp2
    refine wp_scope_fwd 0 rfl ?_
    go_wp2_with fail
    refine (top_c a w).mono ?_; rw [Hx.out]; rintro e w1 ⟨rfl, rfl⟩
    go_wp2_with fail
    refine (top_c b w).mono ?_; rw [Hy.out]; rintro e w1 ⟨rfl, rfl⟩
    go_wp2
    go_step3
    go_wp2
    refine jump_fwd ?_
    go_wp2
    rw [jump_ret]
    go_ret
    exact ⟨rfl, rfl⟩
  · rw [Clk.mulF_lo h]
    generalize hx : Clk.topF a = x at *
    generalize hy : Clk.topF b = y at *
    have Hx := Lib.hid hx; clear hx
    have Hy := Lib.hid hy; clear hy
    obtain ⟨hm0, hm1⟩ := Clk.mul_b ta0 tb0 h
    by_cases h0 : 0 < y
    · have h' : ¬ 4611686018427387903 / y < x := fun k => h ⟨h0, k⟩
      have h2 : x ≤ 4611686018427387903 / y := by omega
      clear h h'
      go_enter Try.func22, Try.ntmps22
      go_wp2
      go_step3
      go_wp2_with fail
      refine (top_c a w).mono ?_; rw [Hx.out]; rintro e w1 ⟨rfl, rfl⟩
      go_wp2_with fail
      refine (top_c b w).mono ?_; rw [Hy.out]; rintro e w1 ⟨rfl, rfl⟩
      go_wp2
      rw [Exit.noGoto_ret]
      go_ret
      exact ⟨retI (by simp), rfl⟩
    · obtain rfl : y = 0 := by omega
      clear h
      go_enter Try.func22, Try.ntmps22
      go_wp2
      go_step3
      go_wp2_with fail
      refine (top_c a w).mono ?_; rw [Hx.out]; rintro e w1 ⟨rfl, rfl⟩
      go_wp2_with fail
      refine (top_c b w).mono ?_; rw [Hy.out]; rintro e w1 ⟨rfl, rfl⟩
      go_wp2
      rw [Exit.noGoto_ret]
      go_ret
      exact ⟨retI (by simp), rfl⟩

theorem mulR_c (a b : Int) (w : World) (ha : 0 ≤ a) (hb : 0 ≤ b) : Calls Try.prog 23 #[.int .u64 a, .int .u64 b] w fun e w' => e = .returned (.int .u64 (Clk.mulF a b)) ∧ w = w' := by
  obtain ⟨ta0, ta1⟩ := Clk.topF_b a ha
  obtain ⟨tb0, tb1⟩ := Clk.topF_b b hb
  by_cases h : 0 < Clk.topF b ∧ 4611686018427387903 / Clk.topF b < Clk.topF a
  · obtain ⟨h1, h2⟩ := h
    rw [Clk.mulF_hi h1 h2]
    generalize hx : Clk.topF a = x at *
    generalize hy : Clk.topF b = y at *
    have Hx := Lib.hid hx; clear hx
    have Hy := Lib.hid hy; clear hy
    go_enter Try.func23, Try.ntmps23
    go_wp2_with fail
    refine (topR_c a w).mono ?_; rw [Hx.out]; rintro e w1 ⟨rfl, rfl⟩
    go_wp2_with fail
    refine (topR_c b w).mono ?_; rw [Hy.out]; rintro e w1 ⟨rfl, rfl⟩
    go_wp2
    go_ret
    exact ⟨rfl, rfl⟩
  · rw [Clk.mulF_lo h]
    generalize hx : Clk.topF a = x at *
    generalize hy : Clk.topF b = y at *
    have Hx := Lib.hid hx; clear hx
    have Hy := Lib.hid hy; clear hy
    obtain ⟨hm0, hm1⟩ := Clk.mul_b ta0 tb0 h
    by_cases h0 : 0 < y
    · have h' : ¬ 4611686018427387903 / y < x := fun k => h ⟨h0, k⟩
      have h2 : x ≤ 4611686018427387903 / y := by omega
      clear h h'
      go_enter Try.func23, Try.ntmps23
      go_wp2_with fail
      refine (topR_c a w).mono ?_; rw [Hx.out]; rintro e w1 ⟨rfl, rfl⟩
      go_wp2_with fail
      refine (topR_c b w).mono ?_; rw [Hy.out]; rintro e w1 ⟨rfl, rfl⟩
      go_wp2
      go_ret
      exact ⟨rfl, rfl⟩
    · obtain rfl : y = 0 := by omega
      clear h
      go_enter Try.func23, Try.ntmps23
      go_wp2_with fail
      refine (topR_c a w).mono ?_; rw [Hx.out]; rintro e w1 ⟨rfl, rfl⟩
      go_wp2_with fail
      refine (topR_c b w).mono ?_; rw [Hy.out]; rintro e w1 ⟨rfl, rfl⟩
      go_wp2
      go_ret
      exact ⟨retI (by simp), rfl⟩

namespace Clk
def carriesF (a b r : Int) : Int := if rightB a b then mulF (b - a) r else 0
theorem rightB_iff (a b : Int) : rightB a b = true ↔ a ≤ b ∧ b ≤ 4611686018427387903 := by simp [rightB]
theorem carriesF_b (a b r : Int) (hr : 0 ≤ r) : 0 ≤ carriesF a b r ∧ carriesF a b r ≤ 4611686018427387903 := by
  unfold carriesF
  split
  · rename_i h
    have := (rightB_iff a b).1 h
    exact mulF_b _ _ (by omega) hr
  · decide
end Clk

theorem carries_c (a b r : Int) (w : World) (ha : 0 ≤ a) (hr : 0 ≤ r) : Calls Try.prog 13 #[.agg #[.int .u64 a, .int .u64 b], .int .u64 r] w (Ret (.int .u64 (Clk.carriesF a b r)) w) := by
  unfold Clk.carriesF
  generalize hx : Clk.rightB a b = x
  have Hx := Lib.hid hx
  cases x
  · clear hx
    go_enter Try.func13, Try.ntmps13
    go_wp2_with (go_at_call 9; refine (right_c _ _ _).mono ?_; rw [Hx.out]; rintro e w1 ⟨rfl, hb⟩; obtain ⟨hc, _⟩ := bcell hb)
    go_ret
    exact ⟨rfl, below_new hb⟩
  · obtain ⟨h1, h2⟩ := (Clk.rightB_iff a b).1 hx
    clear hx
    go_enter Try.func13, Try.ntmps13
    go_wp2_with (first | (go_at_call 9; refine (right_c _ _ _).mono ?_; rw [Hx.out]; rintro e w1 ⟨rfl, hb⟩; obtain ⟨hc, _⟩ := bcell hb) | (go_at_call 22; refine (mul_c _ _ _ (by omega) hr).mono ?_; rintro e w2 ⟨rfl, rfl⟩))
    go_ret
    exact ⟨rfl, below_new hb⟩

theorem carriesR_c (a b r : Int) (w : World) (ha : 0 ≤ a) (hr : 0 ≤ r) : Calls Try.prog 14 #[.agg #[.int .u64 a, .int .u64 b], .int .u64 r] w (Ret (.int .u64 (Clk.carriesF a b r)) w) := by
  unfold Clk.carriesF
  generalize hx : Clk.rightB a b = x
  have Hx := Lib.hid hx
  cases x
  · clear hx
    go_enter Try.func14, Try.ntmps14
    go_wp2_with (go_at_call 10; refine (rightR_c _ _ _).mono ?_; rw [Hx.out]; rintro e w1 ⟨rfl, hb⟩; obtain ⟨hc, _⟩ := bcell hb)
    go_ret
    exact ⟨rfl, below_new hb⟩
  · obtain ⟨h1, h2⟩ := (Clk.rightB_iff a b).1 hx
    clear hx
    go_enter Try.func14, Try.ntmps14
    go_wp2_with (first | (go_at_call 10; refine (rightR_c _ _ _).mono ?_; rw [Hx.out]; rintro e w1 ⟨rfl, hb⟩; obtain ⟨hc, _⟩ := bcell hb) | (go_at_call 23; refine (mulR_c _ _ _ (by omega) hr).mono ?_; rintro e w2 ⟨rfl, rfl⟩))
    go_ret
    exact ⟨rfl, below_new hb⟩

theorem inR_c (a b n : Int) (w : World) : Calls Try.prog 12 #[.agg #[.int .u64 a, .int .u64 b], .int .u64 n] w (Ret (.bool (Clk.inB a b n)) w) := by
  unfold Clk.inB
  generalize hx : Clk.rightB a b = x
  have Hx := Lib.hid hx; clear hx
  cases x
  all_goals
    go_enter Try.func12, Try.ntmps12
    go_wp2_with (go_at_call 10; refine (rightR_c _ _ _).mono ?_; rw [Hx.out]; rintro e w1 ⟨rfl, hb⟩; obtain ⟨hc, _⟩ := bcell hb)
    all_goals
      go_ret
      exact ⟨retB (by simp <;> omega), below_new hb⟩

namespace Clk
def roundF (n r : Int) : Int := n / r + (if 0 < n % r then 1 else 0)
def overF (from_ n r : Int) : Int := if n = 0 then topF from_ else if r = 0 then 4611686018427387903 else addF from_ (roundF n r)
theorem roundF_b {n r : Int} (h0 : 0 ≤ n) (h1 : n ≤ 18446744073709551615) (hr : 0 < r) : 0 ≤ roundF n r ∧ roundF n r ≤ 18446744073709551615 := by
  unfold roundF
  have h2 : 0 ≤ n / r := Int.ediv_nonneg h0 (by omega)
  have h3 : n / r * r ≤ n := Int.ediv_mul_le n (by omega)
  have h4 : n % r = n - n / r * r := by have := Int.emod_def n r; rw [Int.mul_comm] at this; omega
  have h5 : n / r ≤ n / r * r := by have := Int.mul_le_mul_of_nonneg_left (show (1 : Int) ≤ r by omega) h2; omega
  split <;> omega
end Clk

set_option maxHeartbeats 400000 in
theorem over_c (a n r : Int) (w : World) (ha : 0 ≤ a) (hn : 0 ≤ n) (hn1 : n ≤ 18446744073709551615) (hr : 0 ≤ r) : Calls Try.prog 18 #[.int .u64 a, .int .u64 n, .int .u64 r] w (Ret (.int .u64 (Clk.overF a n r)) w) := by
  by_cases h0 : n = 0
  · subst h0
    go_enter Try.func18, Try.ntmps18
    go_wp2_with (go_at_call 30; refine (top_c _ _).mono ?_; rintro e w1 ⟨rfl, rfl⟩)
    go_ret
    exact ⟨by simp [Clk.overF], Below.refl _ _⟩
  · by_cases h1 : r = 0
    · subst h1
      have hz : (n == 0) = false := by simpa using h0
      have hv : Clk.overF a n 0 = 4611686018427387903 := by simp [Clk.overF, h0]
      rw [hv]
      clear h0 hv
      go_enter Try.func18, Try.ntmps18
      go_wp2
      go_ret
      exact ⟨rfl, Below.refl _ _⟩
    · have hz : (n == 0) = false := by simpa using h0
      have hz1 : (r == 0) = false := by simpa using h1
      have hv : Clk.overF a n r = Clk.addF a (Clk.roundF n r) := by simp [Clk.overF, h0, h1]
      rw [hv]
      have hb := Clk.roundF_b hn hn1 (r := r) (by omega)
      have hr0 : 0 < r := by omega
      clear h0 h1 hv
      have hd0 : 0 ≤ n / r := Int.ediv_nonneg hn hr
      have hm0 : 0 ≤ n % r := Int.emod_nonneg _ (by omega)
      go_enter Try.func18, Try.ntmps18
      go_wp2
      refine wp_region_abv (by kernel_rfl) (by kernel_rfl) ?_
      have hro : IntKind.u64.wrap (n / r + if n % r < 1 then n % r else 1) = Clk.roundF n r := by
        have : (n / r + if n % r < 1 then n % r else 1) = Clk.roundF n r := by unfold Clk.roundF; split <;> split <;> omega
        rw [this]
        exact IntWalk.u64_in _ hb
      repeat (go_big_quiet_step ((go_at_call 16; exact Abv.call (add_c _ _ _ ha hb.1))))
      refine wpQuiet_nil ?_
      rintro _ ⟨t, rfl⟩
      go_wp2
      all_goals
        go_ret
        exact ⟨rfl, t.prop⟩
end Go.Proofs.Ytnccbeiaohmnpaa
