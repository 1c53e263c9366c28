/-
  The walk of ClockHolds: it returns true, whatever the numbers, the span, the rate; nothing that was there has turned.
-/
import Derived.Test.YtnccbeiaohmnpaaClockSums
namespace Go.Proofs.Ytnccbeiaohmnpaa
open Go.RowKit
set_option linter.unusedVariables false

/-! ### The plain law: sums, differences, what is carried: no Go in sight -/
namespace Clk
theorem topF_is (n : Int) : (n ≤ 4611686018427387903 ∧ topF n = n) ∨ (4611686018427387903 < n ∧ topF n = 4611686018427387903) := by
  unfold topF; split <;> omega
theorem add_facts (x y z : Int) (hx : 0 ≤ x) (hy : 0 ≤ y) (hz : 0 ≤ z) :
    addF y x = addF x y ∧ addF (addF x y) z = addF x (addF y z) ∧ addF x y ≤ addF x (addF y z) ∧ 0 ≤ addF x y ∧ addF x (addF y z) ≤ 4611686018427387903 ∧
    (addF x y < 4611686018427387903 → subF (addF x y) y = x ∧ subF (addF x y) x = y) := by
  have h1 := topF_is x
  have h2 := topF_is y
  have h3 := topF_is z
  have h4 := topF_is (topF x + topF y)
  have h5 := topF_is (topF y + topF z)
  have h6 := topF_is (topF (topF x + topF y))
  have h7 := topF_is (topF (topF y + topF z))
  have h8 := topF_is (topF (topF (topF x + topF y)) + topF z)
  have h9 := topF_is (topF x + topF (topF (topF y + topF z)))
  have h10 := topF_is (topF y + topF x)
  unfold addF subF
  refine ⟨by omega, by omega, by omega, by omega, by omega, fun h => ⟨?_, ?_⟩⟩
  · rw [if_neg (by omega)]; split <;> omega
  · rw [if_neg (by omega)]; split <;> omega

theorem carries_facts (a b r : Int) (h : rightB a b = true) (ha : 0 ≤ a) (hr : 0 ≤ r) (hr1 : r ≤ 18446744073709551615) :
    (a = b → carriesF a b r = 0) ∧ (0 < carriesF a b r → carriesF a b r < 4611686018427387903 → overF a (carriesF a b r) r = b ∧ (b < 4611686018427387903 → overF a (carriesF a b r + 1) r = b + 1)) := by
  obtain ⟨h1, h2⟩ := (rightB_iff a b).1 h
  have hc : carriesF a b r = mulF (b - a) r := by unfold carriesF; rw [if_pos h]
  have ht : topF (b - a) = b - a := topF_lo (by omega)
  refine ⟨fun e => ?_, fun c0 c1 => ?_⟩
  · rw [hc]
    unfold mulF
    rw [ht, show b - a = 0 by omega]
    rw [if_neg, Int.zero_mul]
    rintro ⟨k1, k2⟩
    have : 0 ≤ 4611686018427387903 / topF r := Int.ediv_nonneg (by decide) (by omega)
    omega
  · rw [hc] at c0 c1 ⊢
    have hm : mulF (b - a) r = (b - a) * topF r := by
      unfold mulF at c1 ⊢
      rw [ht] at c1 ⊢
      split
      · rename_i k; rw [if_pos k] at c1; omega
      · rfl
    have hba : 0 < b - a := by
      rcases Int.lt_or_le 0 (b - a) with k | k
      · exact k
      · have : b - a = 0 := by omega
        rw [hm, this] at c0; simp at c0
    have hr' : topF r = r := by
      rcases topF_is r with ⟨k, e⟩ | ⟨k, e⟩
      · exact e
      · rw [hm, e] at c1
        have := Int.mul_le_mul_of_nonneg_right (show (1 : Int) ≤ b - a by omega) (show (0 : Int) ≤ 4611686018427387903 by decide)
        omega
    rw [hr'] at hm
    have hr0 : 0 < r := by
      rcases Int.lt_or_le 0 r with k | k
      · exact k
      · have : r = 0 := by omega
        rw [hm, this] at c0; simp at c0
    rw [hm] at c0 c1 ⊢
    have hd : (b - a) * r / r = b - a := Int.mul_ediv_cancel _ (by omega)
    have hmod : (b - a) * r % r = 0 := Int.mul_emod_left _ _
    have ha' : topF a = a := topF_lo (by omega)
    refine ⟨?_, fun hb => ?_⟩
    · unfold overF
      rw [if_neg (by omega), if_neg (by omega)]
      unfold roundF addF
      rw [hd, hmod, if_neg (by omega), ha', Int.add_zero, ht, topF_lo (by omega)]
      omega
    · have hro : roundF ((b - a) * r + 1) r = b - a + 1 := by
        unfold roundF
        rcases Int.lt_or_le 1 r with k | k
        · have e1 : ((b - a) * r + 1) / r = b - a := by
            rw [Int.add_comm, Int.add_mul_ediv_right _ _ (by omega), Int.ediv_eq_zero_of_lt (by decide) k, Int.zero_add]
          have e2 : ((b - a) * r + 1) % r = 1 := by
            rw [Int.add_comm, Int.add_mul_emod_self_right, Int.emod_eq_of_lt (by decide) k]
          rw [e1, e2]; simp
        · obtain rfl : r = 1 := by omega
          simp
      unfold overF
      rw [if_neg (by omega), if_neg (by omega), hro]
      unfold addF
      rw [ha', topF_lo (show b - a + 1 ≤ 4611686018427387903 by omega), topF_lo (by omega)]
      omega

theorem both_self (a b : Int) (h : rightB a b = true) : bothB a b a b = decide (a < b) ∧ (a < b → bothF a b a b = .agg #[.int .u64 a, .int .u64 b]) ∧ inB a b a = decide (a < b) ∧ inB a b b = false := by
  have hm : maxI a a = a := by unfold maxI; split <;> rfl
  have hn : minI b b = b := by unfold minI; split <;> rfl
  have hb : bothB a b a b = decide (a < b) := by unfold bothB; rw [h, hm, hn]; rfl
  refine ⟨hb, fun k => ?_, ?_, ?_⟩
  · unfold bothF; rw [hb, decide_eq_true k, hm, hn]; rfl
  · unfold inB; rw [h]; simp
  · unfold inB; rw [h]; simp
end Clk

/-- What the walk is told: the sums and differences by names; in which case it is. -/
structure HoldsIn (n0 n1 n2 A B C : Int) : Prop where
  e1 : Clk.addF n0 n1 = A
  e2 : Clk.addF n1 n2 = C
  e3 : Clk.addF n0 C = B
  e4 : Clk.addF n1 n0 = A
  e5 : Clk.addF A n2 = B
  s1 : A < 4611686018427387903 → Clk.subF A n1 = n0
  s2 : A < 4611686018427387903 → Clk.subF A n0 = n1
end Go.Proofs.Ytnccbeiaohmnpaa
