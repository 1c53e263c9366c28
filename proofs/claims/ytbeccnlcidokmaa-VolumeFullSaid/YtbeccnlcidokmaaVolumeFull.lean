/-
  VolumeFull: true, whatever the number is. No condition.
-/
import Derived.Test.YtbeccnlcidokmaaVolI
namespace Go.Proofs.Ytbeccnlcidokmaa
open Go.RowKit Go.Maps Vol
set_option linter.unusedSimpArgs false
set_option linter.unusedVariables false

namespace Vol
def ctI (i : Nat) : Ct := ⟨1, 2, i, (i : Int) + 1, 4⟩
def EF (n : Nat) : List (Ct × Int) := (List.range n).map fun i => (ctI i, 2)
theorem EF_len (n : Nat) : (EF n).length = n := by simp [EF]
theorem EF_succ (n : Nat) : EF (n + 1) = EF n ++ [(ctI n, 2)] := by simp [EF, List.range_succ]
theorem ctI_ok {i : Nat} (h : i ≤ 515) : (ctI i).Ok := by
  unfold ctI
  exact ⟨by simp, by simp, by simp, by simp, by simp, by simp, by simp; omega, by simp; omega, by simp, by simp⟩
theorem keyI (i j : Nat) : keyEq (ctI i) (ctI j) = decide (i = j) := by
  unfold keyEq ctI
  by_cases h : i = j
  · simp [h]
  · have : ¬ ((i : Int) = (j : Int)) := by omega
    simp [h, this]
theorem EF_none {n i : Nat} (h : n ≤ i) : get (EF n) (ctI i) = none := by
  unfold get EF
  rw [List.find?_eq_none]
  intro p hp
  obtain ⟨j, hj, rfl⟩ := List.mem_map.1 hp
  have := List.mem_range.1 hj
  simp only [keyI]
  simp; omega
theorem EF_lk {n i : Nat} (h : n ≤ i) : lk (EF n) (ctI i) = (zct, 0) := by unfold lk; rw [EF_none h]; rfl
theorem EF_zero {n : Nat} (h : 0 < n) : get (EF n) (ctI 0) = some (ctI 0, 2) := by
  obtain ⟨m, rfl⟩ : ∃ m, n = m + 1 := ⟨n - 1, by omega⟩
  unfold get EF
  rw [List.range_succ_eq_map, List.map_cons, List.find?_cons_of_pos]
  simp only [keyI]; rfl
theorem EF_lk0 {n : Nat} (h : 0 < n) : lk (EF n) (ctI 0) = (ctI 0, 2) := by unfold lk; rw [EF_zero h]; rfl
theorem carriesI {i : Nat} (h : i ≤ 515) : Clk.carriesF (i : Int) ((i : Int) + 1) 4 = 4 := by
  unfold Clk.carriesF
  rw [if_pos ((Clk.rightB_iff _ _).2 ⟨by omega, by omega⟩), show (i : Int) + 1 - (i : Int) = 1 by omega]
  decide
theorem roomI {i : Nat} (h : i ≤ 515) : roomF (ctI i) 0 (ctI i).a = 4 := by
  unfold roomF ctI
  simp only
  rw [if_neg (by omega), show least2 (i : Int) ((i : Int) + 1) = i by unfold least2; rw [if_neg (by omega)], carriesI h]
  decide
theorem room0 : roomF (ctI 0) 2 (ctI 0).a = 2 := by decide
/-- A contact that is new. -/
theorem bookI {i : Nat} (h : i < 512) {en : Ending} {E' : List (Ct × Int)} (hb : BookR (EF i) (ctI i) 2 en E') : en = .returned (.int .i64 0) ∧ E' = EF (i + 1) := by
  unfold BookR at hb
  rw [EF_lk (Nat.le_refl i)] at hb
  rw [roomI (by omega)] at hb
  rcases hb with ⟨h1, _⟩ | ⟨_, h1, _⟩ | ⟨_, _, h1, h2⟩
  · omega
  · unfold FullB at h1
    rw [EF_len] at h1
    simp at h1; omega
  · refine ⟨h1, ?_⟩
    rw [EF_succ]
    rcases h2 with ⟨_, h2⟩ | ⟨A, q, B, h2, h3, _⟩
    · exact h2
    · have hn := EF_none (Nat.le_refl i)
      unfold get at hn
      rw [h2] at hn
      exact absurd h3 (List.find?_eq_none.1 hn q (by simp))
/-- One too many. -/
theorem bookF {i : Nat} (h : 512 ≤ i) (h2 : i ≤ 515) {en : Ending} {E' : List (Ct × Int)} (hb : BookR (EF 512) (ctI i) 2 en E') : en = .returned (.int .i64 291) ∧ E' = EF 512 := by
  unfold BookR at hb
  rw [EF_lk h] at hb
  rw [roomI h2] at hb
  rcases hb with ⟨h1, _⟩ | ⟨_, _, h1, h2⟩ | ⟨_, h1, _⟩
  · omega
  · exact ⟨h1, h2⟩
  · unfold FullB at h1
    rw [EF_len, EF_none h] at h1
    exact absurd h1 (by decide)
theorem bookZ {m : Nat} (h : 0 < m) {en : Ending} {E' : List (Ct × Int)} (hb : BookR (EF m) (ctI 0) 2 en E') : en = .returned (.int .i64 0) ∧ E'.length = m := by
  unfold BookR at hb
  rw [EF_lk0 h] at hb
  rw [room0] at hb
  rcases hb with ⟨h1, _⟩ | ⟨_, h1, _⟩ | ⟨_, _, h1, h2⟩
  · omega
  · unfold FullB at h1
    rw [EF_zero h] at h1
    simp at h1
  · refine ⟨h1, ?_⟩
    rcases h2 with ⟨h2, _⟩ | ⟨A, q, B, h2, _, h3⟩
    · rw [EF_zero h] at h2; cases h2
    · have := congrArg List.length h2
      rw [EF_len] at this
      rw [h3]; simp at this ⊢; omega
end Vol

set_option maxHeartbeats 4000000 in
set_option maxRecDepth 100000 in
theorem volumeFull_c (many : Int) (w : World) : Calls Try.prog 3 #[.int .i64 many] w (Ret (.bool true) w) := by
  by_cases h1 : many < 509
  · go_enter Try.func3, Try.ntmps3
    go_wp2_with (go_at_call 5; refine (vWorks_c _).mono ?_; rintro en w1 ⟨rfl, hb⟩)
    go_ret
    exact ⟨rfl, hb⟩
  by_cases h2 : 515 < many
  · go_enter Try.func3, Try.ntmps3
    go_wp2_with (go_at_call 5; refine (vWorks_c _).mono ?_; rintro en w1 ⟨rfl, hb⟩)
    go_ret
    exact ⟨rfl, hb⟩
  obtain ⟨m, rfl⟩ := Int.eq_ofNat_of_zero_le (show 0 ≤ many by omega)
  have hm1 : 509 ≤ m := by omega
  have hm2 : m ≤ 515 := by omega
  go_enter Try.func3, Try.ntmps3
  go_wp2_with (go_at_call 6; refine (vNew_c _).mono ?_; rintro en w1 ⟨rfl, HL, hb⟩; have HB := Lib.hid hb; clear hb)
  go_loopw [4] (fun t wr => ∃ i : Nat, i ≤ m ∧ t = .int .i64 i ∧ Led wr (w.heap.size + 1) w.heap.size (EF (min i 512)) ∧ Below w.heap.size w wr) (fun t _ => m - (intOf t).toNat)
  case atStart => exact ⟨0, Nat.zero_le _, rfl, HL, HB.out⟩
  case round =>
    obtain ⟨i, hi, rfl, hL, hB⟩ := hrel
    have hHB := Lib.hid hB
    by_cases hlt : i < m
    · have hlt2 : (i : Int) < (m : Int) := by omega
      have hw1 : IntKind.u64.wrap (i : Int) = i := IntWalk.u64_in _ ⟨by omega, by omega⟩
      have hw2 : IntKind.u64.wrap ((i : Int) + 1) = (i : Int) + 1 := IntWalk.u64_in _ ⟨by omega, by omega⟩
      by_cases h5 : i < 512
      · have h6 : ¬ 512 ≤ (i : Int) := by omega
        have h7 : (i : Int) < 512 := by omega
        rw [Nat.min_eq_left (by omega)] at hL
        go_wp2_with (first
          | (go_at_call 7; refine (vBook_c (ctI i) (ctI_ok (by omega)) 2 (by rw [EF_lk (Nat.le_refl i)]; decide) (by decide) _ hL).mono ?_; rintro en w2 ⟨E', hR, HL', hb⟩; obtain ⟨rfl, rfl⟩ := bookI h5 hR; replace hHB := Lib.hid (hHB.out.trans (hb.below (fun k hk => by omega) hHB.out.size)))
          | (go_at_call 8; refine (num_cv _ _).mono ?_; rintro en ww ⟨rfl, rfl⟩))
        go_roundw
        case rel => exact ⟨i + 1, by omega, by simp, by rw [Nat.min_eq_left (by omega)]; exact HL', hHB.out⟩
        case measure => simp [intOf]; omega
      · have h6 : 512 ≤ (i : Int) := by omega
        have h7 : ¬ (i : Int) < 512 := by omega
        rw [Nat.min_eq_right (by omega)] at hL
        go_wp2_with (first
          | (go_at_call 7; refine (vBook_c (ctI i) (ctI_ok (by omega)) 2 (by rw [EF_lk (by omega)]; decide) (by decide) _ hL).mono ?_; rintro en w2 ⟨E', hR, HL', hb⟩; obtain ⟨rfl, rfl⟩ := bookF (by omega) (by omega) hR; replace hHB := Lib.hid (hHB.out.trans (hb.below (fun k hk => by omega) hHB.out.size)))
          | (go_at_call 8; refine (num_cv _ _).mono ?_; rintro en ww ⟨rfl, rfl⟩))
        go_roundw
        case rel => exact ⟨i + 1, by omega, by simp, by rw [Nat.min_eq_right (by omega)]; exact HL', hHB.out⟩
        case measure => simp [intOf]; omega
    · obtain rfl : i = m := by omega
      rcases Nat.lt_or_ge i 512 with h5 | h5
      · have h6 : ¬ 512 ≤ (i : Int) := by omega
        have h7 : (i : Int) < 512 := by omega
        have h8 : ¬ (512 : Int) < (i : Int) := by omega
        have h9 : (i : Int) ≤ 512 := by omega
        rw [Nat.min_eq_left (by omega)] at hL
        go_wp2_with (first
          | (go_at_call 7; refine (vBook_c (ctI 0) (ctI_ok (by omega)) 2 (by rw [EF_lk0 (by omega)]; decide) (by decide) _ hL).mono ?_; rintro en w2 ⟨E', hR, HL', hb⟩; obtain ⟨rfl, hEl⟩ := bookZ (by omega) hR; replace hHB := Lib.hid (hHB.out.trans (hb.below (fun k hk => by omega) hHB.out.size)); clear hb)
          | (go_at_call 8; refine (num_cv _ _).mono ?_; rintro en ww ⟨rfl, rfl⟩)
          | (go_at_call 9; refine (vLen_c _ HL').mono ?_; rw [hEl]; rintro en w3 ⟨rfl, hb3⟩; replace hHB := Lib.hid (below_up hHB.out hb3))
          | (go_at_call 5; refine (vWorks_c _).mono ?_; rintro en w4 ⟨rfl, hb4⟩; replace hHB := Lib.hid (below_up hHB.out hb4)))
        all_goals
          go_ret
          exact ⟨rfl, hHB.out⟩
      · have h6 : 512 ≤ (i : Int) := by omega
        have h7 : ¬ (i : Int) < 512 := by omega
        rw [Nat.min_eq_right (by omega)] at hL
        go_wp2_with (first
          | (go_at_call 7; refine (vBook_c (ctI 0) (ctI_ok (by omega)) 2 (by rw [EF_lk0 (by omega)]; decide) (by decide) _ hL).mono ?_; rintro en w2 ⟨E', hR, HL', hb⟩; obtain ⟨rfl, hEl⟩ := bookZ (by omega) hR; replace hHB := Lib.hid (hHB.out.trans (hb.below (fun k hk => by omega) hHB.out.size)); clear hb)
          | (go_at_call 8; refine (num_cv _ _).mono ?_; rintro en ww ⟨rfl, rfl⟩)
          | (go_at_call 9; refine (vLen_c _ HL').mono ?_; rw [hEl]; rintro en w3 ⟨rfl, hb3⟩; replace hHB := Lib.hid (below_up hHB.out hb3))
          | (go_at_call 5; refine (vWorks_c _).mono ?_; rintro en w4 ⟨rfl, hb4⟩; replace hHB := Lib.hid (below_up hHB.out hb4)))
        all_goals
          go_ret
          exact ⟨rfl, hHB.out⟩
end Go.Proofs.Ytbeccnlcidokmaa
