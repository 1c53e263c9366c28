/-
  ContactFull: true, whatever the number is. No condition.
-/
import Derived.Test.YtgbpdchdcbnoaaaConK
import Derived.Test.YtgbpdchdcbnoaaaOpen
namespace Go.Proofs.Ytgbpdchdcbnoaaa
open Go.RowKit Vol
set_option linter.unusedSimpArgs false
set_option linter.unusedVariables false

namespace Vol
def ctF (i : Nat) : Ct := ⟨1 + (i : Int) % 7, 9, 10 * i, 10 * i + 5, 3⟩
/-- The plan behind i contacts. -/
structure FullI (i : Nat) (L : List Ct) : Prop where
  inv : PInv L
  len : L.length = min i 256
  mem : ∀ x ∈ L, ∃ j, j < i ∧ x = ctF j
theorem ctF_ok {i : Nat} (h : i ≤ 259) : okB (ctF i) = true := by
  have h7 : 0 ≤ (i : Int) % 7 ∧ (i : Int) % 7 < 7 := by omega
  unfold okB ctF Clk.rightB
  simp only [Bool.and_eq_true, decide_eq_true_eq]
  omega
theorem ctF_wf {i : Nat} (h : i ≤ 259) : (ctF i).Wf := by
  have h7 : 0 ≤ (i : Int) % 7 ∧ (i : Int) % 7 < 7 := by omega
  unfold ctF
  exact ⟨by show 0 ≤ 1 + (i : Int) % 7; omega, by show 1 + (i : Int) % 7 ≤ _; omega, by show (0 : Int) ≤ 9; omega, by show (9 : Int) ≤ _; omega, by show (0 : Int) ≤ 10 * i; omega, by show (0 : Int) ≤ 10 * i + 5; omega, by show (0 : Int) ≤ 3; omega⟩
theorem FullI.noclash {i : Nat} {L : List Ct} (h : FullI i L) : clashB L (ctF i) = false := by
  unfold clashB
  rw [List.any_eq_false]
  intro x hx
  obtain ⟨j, hj, rfl⟩ := h.mem x hx
  unfold btwB Clk.bothB ctF Clk.maxI Clk.minI
  simp only [Bool.and_eq_true, decide_eq_true_eq]
  rintro ⟨_, _, h3⟩
  split at h3 <;> split at h3 <;> omega
theorem FullI.start : FullI 0 [] := ⟨PInv.nil, rfl, fun x hx => by cases hx⟩
theorem FullI.room {i : Nat} {L : List Ct} (h : FullI i L) (hi : i < 256) : addF L (ctF i) = (0, insF L (ctF i)) ∧ FullI (i + 1) (insF L (ctF i)) := by
  have hp := insF_perm L (ctF i)
  have hl := h.len
  rw [Nat.min_eq_left (by omega)] at hl
  refine ⟨?_, h.inv.ins (ctF_ok (by omega)) h.noclash, by rw [hp.length_eq, List.length_cons, hl, Nat.min_eq_left (by omega)], fun x hx => ?_⟩
  · unfold addF
    rw [if_pos (ctF_ok (by omega)), h.noclash, if_neg (by simp), if_neg (by omega)]
  · rcases List.mem_cons.1 (hp.mem_iff.1 hx) with rfl | hx
    · exact ⟨i, by omega, rfl⟩
    · obtain ⟨j, hj, e⟩ := h.mem x hx
      exact ⟨j, by omega, e⟩
theorem FullI.full {i : Nat} {L : List Ct} (h : FullI i L) (h1 : 256 ≤ i) (h2 : i ≤ 259) : addF L (ctF i) = (271, L) ∧ FullI (i + 1) L := by
  have hl := h.len
  rw [Nat.min_eq_right (by omega)] at hl
  refine ⟨?_, h.inv, by rw [hl, Nat.min_eq_right (by omega)], fun x hx => ?_⟩
  · unfold addF
    rw [if_pos (ctF_ok h2), h.noclash, if_neg (by simp), if_pos (by omega)]
  · obtain ⟨j, hj, e⟩ := h.mem x hx
    exact ⟨j, by omega, e⟩
end Vol

set_option maxHeartbeats 4000000 in
set_option maxRecDepth 100000 in
theorem contactFull_c (many : Int) (w : World) : Calls Try.prog 4 #[.int .i64 many] w (Ret (.bool true) w) := by
  by_cases h1 : many < 253
  · go_enter Try.func4, Try.ntmps4
    go_wp2_with (go_at_call 11; refine (cWorks_c _).mono ?_; rintro en w1 ⟨rfl, hb⟩)
    go_ret
    exact ⟨rfl, hb⟩
  by_cases h2 : 259 < many
  · go_enter Try.func4, Try.ntmps4
    go_wp2_with (go_at_call 11; refine (cWorks_c _).mono ?_; rintro en w1 ⟨rfl, hb⟩)
    go_ret
    exact ⟨rfl, hb⟩
  obtain ⟨m, rfl⟩ := Int.eq_ofNat_of_zero_le (show 0 ≤ many by omega)
  have hm1 : 253 ≤ m := by omega
  have hm2 : m ≤ 259 := by omega
  go_enter Try.func4, Try.ntmps4
  go_wp2_with (go_at_call 12; refine (pNew_c _).mono ?_; rintro en w1 ⟨rfl, HP, hb⟩; have HB := Lib.hid hb; clear hb)
  go_loopw [4] (fun t wr => ∃ (i : Nat) (v : Value) (L : List Ct), i ≤ m ∧ t = .int .i64 i ∧ FullI i L ∧ PlanAt wr w.heap.size v L ∧ Below w.heap.size w wr) (fun t _ => m - (intOf t).toNat)
  case atStart => exact ⟨0, _, [], Nat.zero_le _, rfl, FullI.start, HP, HB.out⟩
  case round =>
    clear HP HB
    obtain ⟨i, v, L, hi, rfl, hI, HP, hB⟩ := hrel
    have HB := Lib.hid hB
    have HI := Lib.hid hI
    clear hI hB
    by_cases hlt : i < m
    · have hltI : (i : Int) < (m : Int) := by omega
      have h7 : 0 ≤ (i : Int) % 7 ∧ (i : Int) % 7 < 7 := by omega
      have hw1 : IntKind.u64.wrap (10 * (i : Int)) = 10 * i := IntWalk.u64_in _ ⟨by omega, by omega⟩
      have hw2 : IntKind.u64.wrap (10 * (i : Int) + 5) = 10 * (i : Int) + 5 := IntWalk.u64_in _ ⟨by omega, by omega⟩
      have hw3 : IntKind.u32.wrap ((i : Int) % 7) = (i : Int) % 7 := IntWalk.u32_in _ ⟨by omega, by omega⟩
      have hw4 : IntKind.u32.wrap (1 + (i : Int) % 7) = 1 + (i : Int) % 7 := IntWalk.u32_in _ ⟨by omega, by omega⟩
      by_cases h5 : i < 256
      · have h6 : (i : Int) < 256 := by omega
        have h6' : ¬ 256 ≤ (i : Int) := by omega
        obtain ⟨ha, hI2⟩ := HI.out.room h5
        have HA := Lib.hid ha
        have HI2 := Lib.hid hI2
        clear ha hI2
        go_wp2_with (first
          | (go_at_call 14; refine (met_c _ _ _ _ _ _).mono ?_; rintro en w2 ⟨rfl, hb⟩; replace HP := HP.below hb; replace HB := Lib.hid (below_up HB.out hb); clear hb)
          | (go_at_call 13; go_loud (refine (addK (ctF i) (ctF_wf (by omega)) (by rw [HI.out.len]; omega) HI.out.inv HA.out _ HP).mono ?_; rintro en w3 ⟨v3, rfl, HP3, hb, _⟩; replace HB := Lib.hid (HB.out.trans (hb.below (fun k hk => by omega) HB.out.size)); clear hb))
          | (go_at_call 9; refine (num_cc _ _).mono ?_; rintro en ww ⟨rfl, rfl⟩))
        go_roundw
        case rel => exact ⟨i + 1, v3, _, by omega, by go_num, HI2.out, HP3, HB.out⟩
        case measure => simp [intOf]; omega
      · have h6 : 256 ≤ (i : Int) := by omega
        have h6' : ¬ (i : Int) < 256 := by omega
        obtain ⟨ha, hI2⟩ := HI.out.full (by omega) (by omega)
        have HA := Lib.hid ha
        have HI2 := Lib.hid hI2
        clear ha hI2
        go_wp2_with (first
          | (go_at_call 14; refine (met_c _ _ _ _ _ _).mono ?_; rintro en w2 ⟨rfl, hb⟩; replace HP := HP.below hb; replace HB := Lib.hid (below_up HB.out hb); clear hb)
          | (go_at_call 13; refine (addK (ctF i) (ctF_wf (by omega)) (by rw [HI.out.len]; omega) HI.out.inv HA.out _ HP).mono ?_; rintro en w3 ⟨v3, rfl, HP3, hb, _⟩; replace HB := Lib.hid (HB.out.trans (hb.below (fun k hk => by omega) HB.out.size)); clear hb)
          | (go_at_call 9; refine (num_cc _ _).mono ?_; rintro en ww ⟨rfl, rfl⟩))
        go_roundw
        case rel => exact ⟨i + 1, v3, _, by omega, by go_num, HI2.out, HP3, HB.out⟩
        case measure => simp [intOf]; omega
    · obtain rfl : i = m := by omega
      have hlen := HI.out.len
      obtain ⟨n, hn⟩ : ∃ n, n = L.length := ⟨_, rfl⟩
      have hl := pLen_c (B := w.heap.size) (v := v) (L := L)
      rw [← hn] at hl hlen
      clear hn
      rcases Nat.lt_or_ge i 256 with h5 | h5
      · have h6 : (i : Int) < 256 := by omega
        have h6b : ¬ (256 : Int) < (i : Int) := by omega
        have h6c : (i : Int) ≤ 256 := by omega
        have h6d : ¬ 256 ≤ (i : Int) := by omega
        obtain rfl : n = i := by omega
        clear hlen
        go_wp2_with (first
          | (go_at_call 15; refine (hl _ HP).mono ?_; rintro en w3 ⟨rfl, rfl⟩)
          | (go_at_call 11; refine (cWorks_c _).mono ?_; rintro en w4 ⟨rfl, hb4⟩; replace HB := Lib.hid (below_up HB.out hb4)))
        all_goals first
          | (exfalso; omega)
          | (go_ret; exact ⟨rfl, HB.out⟩)
      · have h6 : 256 ≤ (i : Int) := by omega
        have h6b : ¬ (i : Int) < 256 := by omega
        obtain rfl : n = 256 := by omega
        clear hlen
        go_wp2_with (first
          | (go_at_call 15; refine (hl _ HP).mono ?_; rintro en w3 ⟨rfl, rfl⟩)
          | (go_at_call 11; refine (cWorks_c _).mono ?_; rintro en w4 ⟨rfl, hb4⟩; replace HB := Lib.hid (below_up HB.out hb4)))
        all_goals first
          | (exfalso; omega)
          | (go_ret; exact ⟨rfl, HB.out⟩)
end Go.Proofs.Ytgbpdchdcbnoaaa
