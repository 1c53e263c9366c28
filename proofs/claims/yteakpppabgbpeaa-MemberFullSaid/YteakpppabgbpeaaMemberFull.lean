/-
  MemberFull: the walk.
-/
import Derived.Test.YteakpppabgbpeaaMemL
namespace Go.Proofs.Yteakpppabgbpeaa
open Go.RowKit Mem
set_option linter.unusedSimpArgs false
set_option linter.unusedVariables false

namespace Mem
def fm (i : Nat) : Mb := ⟨1 + (i : Int) % 100, 1 + (i : Int) / 100, 0, true⟩
def fE (k : Nat) : List Mb := (List.range (min k 512)).map fm
def fe (k : Nat) : Int := if k < 512 then 0 else 301
theorem fm_inj {i j : Nat} (h1 : (fm i).node = (fm j).node) (h2 : (fm i).region = (fm j).region) : i = j := by
  simp only [fm] at h1 h2; omega
theorem fm_wf (k : Nat) (h : k ≤ 600) : (fm k).Wf := ⟨by simp only [fm]; omega, by simp only [fm]; omega, by simp only [fm]; omega, by simp only [fm]; omega⟩
theorem find_fE (k : Nat) : find (fE k) (fm k).node (fm k).region = none := by
  unfold find fE
  rw [List.find?_eq_none]
  intro m hm
  obtain ⟨i, hi, rfl⟩ := List.mem_map.1 hm
  have hi' : i < min k 512 := by simpa using hi
  intro h
  simp only [ofB, Bool.and_eq_true, decide_eq_true_eq] at h
  have := fm_inj h.1 h.2
  omega
theorem len_fE (k : Nat) : (fE k).length = min k 512 := by simp [fE]
theorem tellE_fE (k : Nat) : tellE (fE k) (fm k) = fe k := by
  unfold tellE oldB fullB fe
  rw [find_fE, len_fE]
  have hz : zB (fm k) = false := by
    unfold zB
    rw [Bool.or_eq_false_iff]
    exact ⟨decide_eq_false (by simp only [fm]; omega), decide_eq_false (by simp only [fm]; omega)⟩
  rw [hz]
  by_cases h : k < 512
  · have : ¬ 512 ≤ min k 512 := by omega
    simp [h, this]
  · have : 512 ≤ min k 512 := by omega
    simp [h, this]
theorem tellF_fE (k : Nat) : tellF (fE k) (fm k) = fE (k + 1) := by
  unfold tellF
  rw [tellE_fE]
  by_cases h : k < 512
  · rw [show fe k = 0 from if_pos h, if_pos rfl, putF_none (find_fE k)]
    unfold fE
    rw [show min (k + 1) 512 = k + 1 by omega, show min k 512 = k by omega, List.range_succ, List.map_append]
    rfl
  · rw [show fe k = 301 from if_neg h, if_neg (by decide)]
    unfold fE
    rw [show min (k + 1) 512 = min k 512 by omega]
abbrev fz : Mb := ⟨1, 1, 0, false⟩
theorem find_fz (k : Nat) (h : 0 < k) : find (fE k) 1 1 = some (fm 0) := by
  unfold find fE
  obtain ⟨n, hn⟩ : ∃ n, min k 512 = n + 1 := ⟨min k 512 - 1, by omega⟩
  rw [hn, List.range_succ_eq_map, List.map_cons, List.find?_cons_of_pos (by decide)]
theorem tellE_fz (k : Nat) (h : 0 < k) : tellE (fE k) fz = 0 := by
  unfold tellE oldB fullB
  rw [show fz.node = 1 from rfl, show fz.region = 1 from rfl, find_fz k h]
  rfl
theorem len_fz (k : Nat) (h : 0 < k) : (tellF (fE k) fz).length = min k 512 := by
  unfold tellF
  rw [tellE_fz k h, if_pos rfl]
  obtain ⟨a, b, h1, h2⟩ := putF_some (m := fz) (find_fz k h)
  rw [h2, ← len_fE k, h1]
  simp
end Mem

set_option maxHeartbeats 4000000 in
set_option maxRecDepth 100000 in
theorem memberFull_law (many : Int) (w : World) : Calls Try.prog 4 #[.int .i64 many] w (Ret (.bool true) w) := by
  by_cases h1 : many < 509
  · have d1 : decide (many < 509) = true := decide_eq_true h1
    go_enter Try.func4, Try.ntmps4
    go_wp2_with (go_at_call 10; refine (works_c _).mono ?_; rintro en w1 ⟨rfl, hb⟩)
    go_ret
    exact ⟨rfl, hb⟩
  by_cases h2 : 515 < many
  · go_enter Try.func4, Try.ntmps4
    go_wp2_with (go_at_call 10; refine (works_c _).mono ?_; rintro en w1 ⟨rfl, hb⟩)
    go_ret
    exact ⟨rfl, hb⟩
  obtain ⟨n, rfl⟩ : ∃ n : Nat, many = n := ⟨many.toNat, by omega⟩
  have hn1 : 509 ≤ (n : Int) := by omega
  have hn2 : (n : Int) ≤ 515 := by omega
  have hn3 : 509 ≤ n := by omega
  clear h1 h2
  go_enter Try.func4, Try.ntmps4
  go_wp2_with (go_at_call 11; refine (rNew_c _).mono ?_; rintro en w1 ⟨rfl, h0, hb0⟩)
  have HB0 := Lib.hid hb0
  have hz0 := hb0.size
  clear hb0
  go_loopw [4] (fun i wr => ∃ k : Nat, k ≤ n ∧ i = .int .i64 k ∧ RollAt wr (w.heap.size + 1) w.heap.size (fE k) ∧ Below w.heap.size w wr) (fun i _ => n - (intOf i).toNat)
  case atStart => exact ⟨0, Nat.zero_le _, rfl, h0, HB0.out⟩
  case round =>
    obtain ⟨k, hk, rfl, hr, hB⟩ := hrel
    have HB := Lib.hid hB
    clear hB
    by_cases hlt : k < n
    · have hkn : (k : Int) < (n : Int) := by omega
      have hT := mTell_c (fm k) (fm_wf k (by omega)) wr hr
      rw [tellE_fE, tellF_fE] at hT
      have hk2 : (k : Int) ≤ 515 := by omega
      by_cases hk5 : k < 512
      · rw [show fe k = 0 from if_pos hk5] at hT
        have hk5' : (k : Int) < 512 := by omega
        go_wp2_with (first | (go_at_call 12; refine hT.mono ?_; rintro en w2 ⟨rfl, hr2, hb2⟩) | (go_at_call 13; refine (num_cc _ _).mono ?_; rintro en w4 ⟨rfl, rfl⟩))
        go_roundw
        case rel => exact ⟨k + 1, by omega, by go_num, hr2, HB.out.trans (hb2.below (fun q e => by rw [e]; exact Nat.le_refl _) HB.out.size)⟩
        case measure => simp [intOf]; omega
      · rw [show fe k = 301 from if_neg hk5] at hT
        have hk5' : ¬ (k : Int) < 512 := by omega
        have hk6 : (512 : Int) ≤ k := by omega
        go_wp2_with (first | (go_at_call 12; refine hT.mono ?_; rintro en w2 ⟨rfl, hr2, hb2⟩) | (go_at_call 13; refine (num_cc _ _).mono ?_; rintro en w4 ⟨rfl, rfl⟩))
        go_roundw
        case rel => exact ⟨k + 1, by omega, by go_num, hr2, HB.out.trans (hb2.below (fun q e => by rw [e]; exact Nat.le_refl _) HB.out.size)⟩
        case measure => simp [intOf]; omega
    · obtain rfl : k = n := by omega
      have hT := mTell_c fz ⟨by decide, by decide, by decide, by decide⟩ wr hr
      rw [tellE_fz k (by omega)] at hT
      have hL := len_fz k (by omega)
      have hlm : (tellF (fE k) fz).length ≤ 100000 := by omega
      generalize tellF (fE k) fz = E at *
      by_cases hk5 : k < 512
      · have hL2 : E.length = k := by omega
        have HL := Lib.hid hL2
        have hmin : ∀ ts t w, (Builtin.min_ ts t #[.int .i64 k, .int .i64 512]).run Try.prog w = .ok (.int .i64 k) w := fun ts t w => by rw [run_min_int2, if_neg (by omega)]
        have HM := Lib.hid hlm
        clear hL hL2 hlm hlt hk hr hk5 hn3 hz0 hn1 hn2 
        rename_i hjunk
        clear hjunk
        go_wp2_with (first
          | (go_at_call 12; refine hT.mono ?_; rintro en w2 ⟨rfl, hr2, hb2⟩; have HB2 := Lib.hid (HB.out.trans (hb2.below (fun q e => by rw [e]; exact Nat.le_refl _) HB.out.size)); clear hb2)
          | (go_at_call 13; refine (num_cc _ _).mono ?_; rintro en w4 ⟨rfl, rfl⟩)
          | (go_at_call 14; refine (rLen_c _ hr2 HM.out).mono ?_; rw [HL.out]; rintro en w4 ⟨rfl, hb4⟩)
          | (go_at_call 10; refine (works_c _).mono ?_; rintro en w5 ⟨rfl, hb5⟩))
        all_goals
          go_ret
          exact ⟨rfl, below_up (below_up HB2.out hb4) hb5⟩
      · have hL2 : E.length = 512 := by omega
        have hmin : ∀ ts t w, (Builtin.min_ ts t #[.int .i64 k, .int .i64 512]).run Try.prog w = .ok (.int .i64 512) w := fun ts t w => by rw [run_min_int2]; congr 2; split <;> omega
        have HL := Lib.hid hL2
        have HM := Lib.hid hlm
        clear hL hL2 hlm hlt hk hr hk5 hn3 hz0 hn1 hn2 
        rename_i hjunk
        clear hjunk
        go_wp2_with (first
          | (go_at_call 12; refine hT.mono ?_; rintro en w2 ⟨rfl, hr2, hb2⟩; have HB2 := Lib.hid (HB.out.trans (hb2.below (fun q e => by rw [e]; exact Nat.le_refl _) HB.out.size)); clear hb2)
          | (go_at_call 13; refine (num_cc _ _).mono ?_; rintro en w4 ⟨rfl, rfl⟩)
          | (go_at_call 14; refine (rLen_c _ hr2 HM.out).mono ?_; rw [HL.out]; rintro en w4 ⟨rfl, hb4⟩)
          | (go_at_call 10; refine (works_c _).mono ?_; rintro en w5 ⟨rfl, hb5⟩))
        all_goals
          go_ret
          exact ⟨rfl, below_up (below_up HB2.out hb4) hb5⟩
end Go.Proofs.Yteakpppabgbpeaa
