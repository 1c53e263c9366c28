/-
  CbQ: several texts in one (bundle.py).
-/
import Derived.Test.YtpkonagjnfphkaaGreatDoorPmY08
set_option linter.unusedSimpArgs false
set_option linter.unusedVariables false
set_option maxRecDepth 100000
set_option maxHeartbeats 4000000
namespace Go.Proofs.YtpkonagjnfphkaaGreatDoor
open Go.RowKit Cb
namespace Cb
def oc (s : ByteArray) (i : Nat) : Int := if i < s.size then (s.get! i).toNat else -1
theorem oc_lt (s : ByteArray) (i : Nat) : -1 ≤ oc s i ∧ oc s i ≤ 255 := by
  unfold oc; have := UInt8.toNat_lt (s.get! i)
  split <;> omega
def loI (a : Int) (j : Nat) : Int := if j = 1 then a else 128
def hiI (a : Int) (j : Nat) : Int := if j = 1 then a else 191
def goodB (s : ByteArray) (lo hi : Int) (j : Nat) : Prop := loI lo j ≤ oc s j ∧ oc s j ≤ hiI hi j
theorem way0 {s : ByteArray} (h0 : 0 < s.size) (hb : oc s 0 ≤ 127) : ((∀ j, 1 ≤ j → j < 1 → goodB s 0 127 j) → rune1 s 0 = 1) ∧ (∀ j, 1 ≤ j → j < 1 → ¬ goodB s 0 127 j → rune1 s 0 = 0) := by
  have e0 : oc s 0 = ((s.get! 0).toNat : Int) := if_pos h0; rw [e0] at hb; unfold rune1 rune1N; simp only [Nat.zero_add, Nat.sub_zero]; refine ⟨fun h => ?_, fun j h1 h2 h => ?_⟩
  · rw [if_pos (by omega)]
  · omega
theorem way1 {s : ByteArray} (h0 : 0 < s.size) (hb : 194 ≤ oc s 0 ∧ oc s 0 ≤ 223) : ((∀ j, 1 ≤ j → j < 2 → goodB s 128 191 j) → rune1 s 0 = 2) ∧ (∀ j, 1 ≤ j → j < 2 → ¬ goodB s 128 191 j → rune1 s 0 = 0) := by
  have e0 : oc s 0 = ((s.get! 0).toNat : Int) := if_pos h0; rw [e0] at hb; unfold rune1 rune1N; simp only [Nat.zero_add, Nat.sub_zero]; refine ⟨fun h => ?_, fun j h1 h2 h => ?_⟩
  · have g1 := h 1 (by decide) (by decide)
    simp only [goodB, loI, hiI, oc] at g1; simp at g1; have s0 := s.size
    repeat' (first | rw [if_pos (by omega)] | rw [if_neg (by omega)] | split)
    all_goals (repeat' split at *)
    all_goals omega
  · obtain rfl := (by omega : j = 1)
    simp only [goodB, loI, hiI, oc] at h; simp at h
    repeat' (first | rw [if_pos (by omega)] | rw [if_neg (by omega)] | split)
    all_goals (repeat' split at *)
    all_goals omega
theorem way2 {s : ByteArray} (h0 : 0 < s.size) (hb : oc s 0 = 224) : ((∀ j, 1 ≤ j → j < 3 → goodB s 160 191 j) → rune1 s 0 = 3) ∧ (∀ j, 1 ≤ j → j < 3 → ¬ goodB s 160 191 j → rune1 s 0 = 0) := by
  have e0 : oc s 0 = ((s.get! 0).toNat : Int) := if_pos h0; rw [e0] at hb; unfold rune1 rune1N; simp only [Nat.zero_add, Nat.sub_zero]; refine ⟨fun h => ?_, fun j h1 h2 h => ?_⟩
  · have g1 := h 1 (by decide) (by decide)
    have g2 := h 2 (by decide) (by decide); simp only [goodB, loI, hiI, oc] at g1 g2; simp at g1 g2; have s0 := s.size
    repeat' (first | rw [if_pos (by omega)] | rw [if_neg (by omega)] | split)
    all_goals (repeat' split at *)
    all_goals omega
  · rcases (by omega : j = 1 ∨ j = 2) with rfl | rfl
    all_goals (
      simp only [goodB, loI, hiI, oc] at h; simp at h
      repeat' (first | rw [if_pos (by omega)] | rw [if_neg (by omega)] | split)
      all_goals (repeat' split at *)
      all_goals omega)
theorem way3 {s : ByteArray} (h0 : 0 < s.size) (hb : oc s 0 = 237) : ((∀ j, 1 ≤ j → j < 3 → goodB s 128 159 j) → rune1 s 0 = 3) ∧ (∀ j, 1 ≤ j → j < 3 → ¬ goodB s 128 159 j → rune1 s 0 = 0) := by
  have e0 : oc s 0 = ((s.get! 0).toNat : Int) := if_pos h0; rw [e0] at hb; unfold rune1 rune1N; simp only [Nat.zero_add, Nat.sub_zero]; refine ⟨fun h => ?_, fun j h1 h2 h => ?_⟩
  · have g1 := h 1 (by decide) (by decide)
    have g2 := h 2 (by decide) (by decide); simp only [goodB, loI, hiI, oc] at g1 g2; simp at g1 g2; have s0 := s.size
    repeat' (first | rw [if_pos (by omega)] | rw [if_neg (by omega)] | split)
    all_goals (repeat' split at *)
    all_goals omega
  · rcases (by omega : j = 1 ∨ j = 2) with rfl | rfl
    all_goals (
      simp only [goodB, loI, hiI, oc] at h; simp at h
      repeat' (first | rw [if_pos (by omega)] | rw [if_neg (by omega)] | split)
      all_goals (repeat' split at *)
      all_goals omega)
theorem way4 {s : ByteArray} (h0 : 0 < s.size) (hb : 225 ≤ oc s 0 ∧ oc s 0 ≤ 239 ∧ oc s 0 ≠ 237) : ((∀ j, 1 ≤ j → j < 3 → goodB s 128 191 j) → rune1 s 0 = 3) ∧ (∀ j, 1 ≤ j → j < 3 → ¬ goodB s 128 191 j → rune1 s 0 = 0) := by
  have e0 : oc s 0 = ((s.get! 0).toNat : Int) := if_pos h0; rw [e0] at hb; unfold rune1 rune1N; simp only [Nat.zero_add, Nat.sub_zero]; refine ⟨fun h => ?_, fun j h1 h2 h => ?_⟩
  · have g1 := h 1 (by decide) (by decide)
    have g2 := h 2 (by decide) (by decide); simp only [goodB, loI, hiI, oc] at g1 g2; simp at g1 g2; have s0 := s.size
    repeat' (first | rw [if_pos (by omega)] | rw [if_neg (by omega)] | split)
    all_goals (repeat' split at *)
    all_goals omega
  · rcases (by omega : j = 1 ∨ j = 2) with rfl | rfl
    all_goals (
      simp only [goodB, loI, hiI, oc] at h; simp at h
      repeat' (first | rw [if_pos (by omega)] | rw [if_neg (by omega)] | split)
      all_goals (repeat' split at *)
      all_goals omega)
theorem way5 {s : ByteArray} (h0 : 0 < s.size) (hb : oc s 0 = 240) : ((∀ j, 1 ≤ j → j < 4 → goodB s 144 191 j) → rune1 s 0 = 4) ∧ (∀ j, 1 ≤ j → j < 4 → ¬ goodB s 144 191 j → rune1 s 0 = 0) := by
  have e0 : oc s 0 = ((s.get! 0).toNat : Int) := if_pos h0; rw [e0] at hb; unfold rune1 rune1N; simp only [Nat.zero_add, Nat.sub_zero]; refine ⟨fun h => ?_, fun j h1 h2 h => ?_⟩
  · have g1 := h 1 (by decide) (by decide)
    have g2 := h 2 (by decide) (by decide); have g3 := h 3 (by decide) (by decide); simp only [goodB, loI, hiI, oc] at g1 g2 g3; simp at g1 g2 g3; have s0 := s.size
    repeat' (first | rw [if_pos (by omega)] | rw [if_neg (by omega)] | split)
    all_goals (repeat' split at *)
    all_goals omega
  · rcases (by omega : j = 1 ∨ j = 2 ∨ j = 3) with rfl | rfl | rfl
    all_goals (
      simp only [goodB, loI, hiI, oc] at h; simp at h
      repeat' (first | rw [if_pos (by omega)] | rw [if_neg (by omega)] | split)
      all_goals (repeat' split at *)
      all_goals omega)
theorem way6 {s : ByteArray} (h0 : 0 < s.size) (hb : oc s 0 = 244) : ((∀ j, 1 ≤ j → j < 4 → goodB s 128 143 j) → rune1 s 0 = 4) ∧ (∀ j, 1 ≤ j → j < 4 → ¬ goodB s 128 143 j → rune1 s 0 = 0) := by
  have e0 : oc s 0 = ((s.get! 0).toNat : Int) := if_pos h0; rw [e0] at hb; unfold rune1 rune1N; simp only [Nat.zero_add, Nat.sub_zero]; refine ⟨fun h => ?_, fun j h1 h2 h => ?_⟩
  · have g1 := h 1 (by decide) (by decide)
    have g2 := h 2 (by decide) (by decide); have g3 := h 3 (by decide) (by decide); simp only [goodB, loI, hiI, oc] at g1 g2 g3; simp at g1 g2 g3; have s0 := s.size
    repeat' (first | rw [if_pos (by omega)] | rw [if_neg (by omega)] | split)
    all_goals (repeat' split at *)
    all_goals omega
  · rcases (by omega : j = 1 ∨ j = 2 ∨ j = 3) with rfl | rfl | rfl
    all_goals (
      simp only [goodB, loI, hiI, oc] at h; simp at h
      repeat' (first | rw [if_pos (by omega)] | rw [if_neg (by omega)] | split)
      all_goals (repeat' split at *)
      all_goals omega)
theorem way7 {s : ByteArray} (h0 : 0 < s.size) (hb : 241 ≤ oc s 0 ∧ oc s 0 ≤ 243) : ((∀ j, 1 ≤ j → j < 4 → goodB s 128 191 j) → rune1 s 0 = 4) ∧ (∀ j, 1 ≤ j → j < 4 → ¬ goodB s 128 191 j → rune1 s 0 = 0) := by
  have e0 : oc s 0 = ((s.get! 0).toNat : Int) := if_pos h0; rw [e0] at hb; unfold rune1 rune1N; simp only [Nat.zero_add, Nat.sub_zero]; refine ⟨fun h => ?_, fun j h1 h2 h => ?_⟩
  · have g1 := h 1 (by decide) (by decide)
    have g2 := h 2 (by decide) (by decide); have g3 := h 3 (by decide) (by decide); simp only [goodB, loI, hiI, oc] at g1 g2 g3; simp at g1 g2 g3; have s0 := s.size
    repeat' (first | rw [if_pos (by omega)] | rw [if_neg (by omega)] | split)
    all_goals (repeat' split at *)
    all_goals omega
  · rcases (by omega : j = 1 ∨ j = 2 ∨ j = 3) with rfl | rfl | rfl
    all_goals (
      simp only [goodB, loI, hiI, oc] at h; simp at h
      repeat' (first | rw [if_pos (by omega)] | rw [if_neg (by omega)] | split)
      all_goals (repeat' split at *)
      all_goals omega)
end Cb
theorem octR_c (s : ByteArray) (i : Nat) (w : World) (hi : i ≤ 9223372036854775807) (hs : s.size ≤ 9223372036854775807) : Calls Tryz.prog 151 #[.string s, .int .i64 i] w fun en w' => en = .returned (.int .i64 (oc s i)) ∧ w = w' := by
  by_cases h : i < s.size
  · have hlt : (i : Int) < (s.size : Int) := by omega
    have h1 : ¬ (s.size : Int) ≤ (i : Int) := by omega
    have h0 : (0 : Int) ≤ (i : Int) := by omega
    have hg := Utf8W.get!_of_lt s i h; have hb := UInt8.toNat_lt (s[i]'h); have HG := Lib.hid (show oc s i = ((s[i]'h).toNat : Int) by unfold oc; rw [if_pos h, hg])
    have hw : IntKind.i64.wrap ((s[i]'h).toNat : Int) = ((s[i]'h).toNat : Int) := by rw [IntKind.wrap_i64]; omega
    clear hg; go_enter Tryz.func151, Tryz.ntmps151; go_wp2; go_ret; exact ⟨retI (by rw [HG.out]), rfl⟩
  · have h1 : (s.size : Int) ≤ (i : Int) := by omega
    have HG := Lib.hid (show oc s i = -1 from if_neg h); go_enter Tryz.func151, Tryz.ntmps151; go_wp2; go_ret; exact ⟨retI HG.out.symm, rfl⟩
theorem rune1_w0 (s : ByteArray) (w : World) (h0 : 0 < s.size) (hs : s.size ≤ 9223372036854775807) (hb : oc s 0 ≤ 127) : Calls Tryz.prog 131 #[.string s] w fun en w' => en = .returned (.int .i64 (rune1 s 0)) ∧ w = w' := by
  obtain ⟨hgood, hbad⟩ := way0 h0 hb; obtain ⟨R, hR⟩ : ∃ R, rune1 s 0 = R := ⟨_, rfl⟩; rw [hR] at hgood hbad ⊢
  have ho := fun (i : Nat) w (h : i ≤ 9223372036854775807) => octR_c s i w h hs
  have HO0 := ho 0 w (by omega); have hl0 := oc_lt s 0; obtain ⟨c0, hc0⟩ : ∃ c, oc s 0 = c := ⟨_, rfl⟩; rw [hc0] at hb HO0 hl0; have HO := Lib.hid ho; have HZ := Lib.hid HO0; have HG := Lib.hid hgood; have HB := Lib.hid hbad; clear ho HO0 hgood hbad hR hc0
  have r194 : c0 < 194 ∨ 223 < c0 := by omega
  have e224 : (c0 == 224) = false := by simp; omega
  have e237 : (c0 == 237) = false := by simp; omega
  have r225 : c0 < 225 ∨ 239 < c0 := by omega
  have e240 : (c0 == 240) = false := by simp; omega
  have e244 : (c0 == 244) = false := by simp; omega
  have r241 : c0 < 241 ∨ 243 < c0 := by omega
  have t127 : decide ((127 : Int) < c0) = false := by simp; omega
  go_enter Tryz.func131, Tryz.ntmps131
  go_wp2_with (go_at_call 151; refine HZ.out.mono ?_; rintro en w1 ⟨rfl, rfl⟩)
  go_loop [5, 6, 7] (fun vl vh vi => ∃ (k : Nat) (lo hi : Int), vl = .int .i64 lo ∧ vh = .int .i64 hi ∧ vi = .int .i64 k ∧ 1 ≤ k ∧ k ≤ 1 ∧ RowKit.Hid (lo = loI 0 k ∧ hi = hiI 127 k) ∧ RowKit.Hid (∀ j, 1 ≤ j → j < k → goodB s 0 127 j)) (fun _ _ vi => 1 - (intOf vi).toNat)
  case atStart => exact ⟨1, 0, 127, rfl, rfl, rfl, by omega, by omega, Lib.hid ⟨rfl, rfl⟩, Lib.hid (fun j h1 h2 => by omega)⟩
  case round =>
    obtain ⟨k, lo, hi, rfl, rfl, rfl, hk1, hk, HLH, HGO⟩ := hrel; by_cases hlt : k < 1
    · have hkI : (k : Int) < 1 := by omega
      have HOk := HO.out k w (by omega); obtain ⟨c, hc⟩ : ∃ c, oc s k = c := ⟨_, rfl⟩; rw [hc] at HOk; have HK := Lib.hid hc; have HOK := Lib.hid HOk; clear hc HOk; by_cases hl : c < lo
      · have HR := Lib.hid (HB.out k hk1 hlt (fun g => by have h1 := g.1; rw [← HLH.out.1, HK.out] at h1; omega))
        have hl1 : decide (c < lo) = true := decide_eq_true hl
        go_wp2_with (go_at_call 151; refine HOK.out.mono ?_; rintro en w1 ⟨rfl, rfl⟩)
        go_ret; exact ⟨retI (by rw [HR.out]; rfl), rfl⟩
      · have hl1 : decide (c < lo) = false := decide_eq_false hl
        by_cases hh : hi < c
        · have HR := Lib.hid (HB.out k hk1 hlt (fun g => by have h1 := g.2; rw [← HLH.out.2, HK.out] at h1; omega))
          have hh1 : decide (hi < c) = true := decide_eq_true hh
          go_wp2_with (go_at_call 151; refine HOK.out.mono ?_; rintro en w1 ⟨rfl, rfl⟩)
          go_ret; exact ⟨retI (by rw [HR.out]; rfl), rfl⟩
        · have hh1 : decide (hi < c) = false := decide_eq_false hh
          have hg : goodB s 0 127 k := ⟨by rw [← HLH.out.1, HK.out]; omega, by rw [← HLH.out.2, HK.out]; omega⟩; have HG2 := Lib.hid (show ∀ j, 1 ≤ j → j < k + 1 → goodB s 0 127 j from fun j h1 h2 => by rcases Nat.lt_or_ge j k with h | h; exact HGO.out j h1 h; (obtain rfl : j = k := (by omega)); exact hg); have HL2 := Lib.hid (show (128 : Int) = loI 0 (k + 1) ∧ (191 : Int) = hiI 127 (k + 1) from ⟨(if_neg (by omega)).symm, (if_neg (by omega)).symm⟩); clear hg hl hh
          go_wp2_with (go_at_call 151; refine HOK.out.mono ?_; rintro en w1 ⟨rfl, rfl⟩)
          exact ⟨⟨k + 1, 128, 191, rfl, rfl, by go_num, by omega, by omega, HL2, HG2⟩, by simp [intOf]; omega⟩
    · obtain rfl : k = 1 := by omega
      have HR := Lib.hid (HG.out HGO.out); go_wp2; go_ret; exact ⟨retI (by rw [HR.out]; rfl), rfl⟩
theorem rune1_w1 (s : ByteArray) (w : World) (h0 : 0 < s.size) (hs : s.size ≤ 9223372036854775807) (hb : 194 ≤ oc s 0 ∧ oc s 0 ≤ 223) : Calls Tryz.prog 131 #[.string s] w fun en w' => en = .returned (.int .i64 (rune1 s 0)) ∧ w = w' := by
  obtain ⟨hgood, hbad⟩ := way1 h0 hb; obtain ⟨R, hR⟩ : ∃ R, rune1 s 0 = R := ⟨_, rfl⟩; rw [hR] at hgood hbad ⊢
  have ho := fun (i : Nat) w (h : i ≤ 9223372036854775807) => octR_c s i w h hs
  have HO0 := ho 0 w (by omega); have hl0 := oc_lt s 0; obtain ⟨c0, hc0⟩ : ∃ c, oc s 0 = c := ⟨_, rfl⟩; rw [hc0] at hb HO0 hl0; have HO := Lib.hid ho; have HZ := Lib.hid HO0; have HG := Lib.hid hgood; have HB := Lib.hid hbad; clear ho HO0 hgood hbad hR hc0
  have f194 : decide ((194 : Int) ≤ c0) = true := by simp; omega
  have g194 : decide (c0 ≤ 223) = true := by simp; omega
  go_enter Tryz.func131, Tryz.ntmps131
  go_wp2_with (go_at_call 151; refine HZ.out.mono ?_; rintro en w1 ⟨rfl, rfl⟩)
  go_loop [5, 6, 7] (fun vl vh vi => ∃ (k : Nat) (lo hi : Int), vl = .int .i64 lo ∧ vh = .int .i64 hi ∧ vi = .int .i64 k ∧ 1 ≤ k ∧ k ≤ 2 ∧ RowKit.Hid (lo = loI 128 k ∧ hi = hiI 191 k) ∧ RowKit.Hid (∀ j, 1 ≤ j → j < k → goodB s 128 191 j)) (fun _ _ vi => 2 - (intOf vi).toNat)
  case atStart => exact ⟨1, 128, 191, rfl, rfl, rfl, by omega, by omega, Lib.hid ⟨rfl, rfl⟩, Lib.hid (fun j h1 h2 => by omega)⟩
  case round =>
    obtain ⟨k, lo, hi, rfl, rfl, rfl, hk1, hk, HLH, HGO⟩ := hrel; by_cases hlt : k < 2
    · have hkI : (k : Int) < 2 := by omega
      have HOk := HO.out k w (by omega); obtain ⟨c, hc⟩ : ∃ c, oc s k = c := ⟨_, rfl⟩; rw [hc] at HOk; have HK := Lib.hid hc; have HOK := Lib.hid HOk; clear hc HOk; by_cases hl : c < lo
      · have HR := Lib.hid (HB.out k hk1 hlt (fun g => by have h1 := g.1; rw [← HLH.out.1, HK.out] at h1; omega))
        have hl1 : decide (c < lo) = true := decide_eq_true hl
        go_wp2_with (go_at_call 151; refine HOK.out.mono ?_; rintro en w1 ⟨rfl, rfl⟩)
        go_ret; exact ⟨retI (by rw [HR.out]; rfl), rfl⟩
      · have hl1 : decide (c < lo) = false := decide_eq_false hl
        by_cases hh : hi < c
        · have HR := Lib.hid (HB.out k hk1 hlt (fun g => by have h1 := g.2; rw [← HLH.out.2, HK.out] at h1; omega))
          have hh1 : decide (hi < c) = true := decide_eq_true hh
          go_wp2_with (go_at_call 151; refine HOK.out.mono ?_; rintro en w1 ⟨rfl, rfl⟩)
          go_ret; exact ⟨retI (by rw [HR.out]; rfl), rfl⟩
        · have hh1 : decide (hi < c) = false := decide_eq_false hh
          have hg : goodB s 128 191 k := ⟨by rw [← HLH.out.1, HK.out]; omega, by rw [← HLH.out.2, HK.out]; omega⟩; have HG2 := Lib.hid (show ∀ j, 1 ≤ j → j < k + 1 → goodB s 128 191 j from fun j h1 h2 => by rcases Nat.lt_or_ge j k with h | h; exact HGO.out j h1 h; (obtain rfl : j = k := (by omega)); exact hg); have HL2 := Lib.hid (show (128 : Int) = loI 128 (k + 1) ∧ (191 : Int) = hiI 191 (k + 1) from ⟨(if_neg (by omega)).symm, (if_neg (by omega)).symm⟩); clear hg hl hh
          go_wp2_with (go_at_call 151; refine HOK.out.mono ?_; rintro en w1 ⟨rfl, rfl⟩)
          exact ⟨⟨k + 1, 128, 191, rfl, rfl, by go_num, by omega, by omega, HL2, HG2⟩, by simp [intOf]; omega⟩
    · obtain rfl : k = 2 := by omega
      have HR := Lib.hid (HG.out HGO.out); go_wp2; go_ret; exact ⟨retI (by rw [HR.out]; rfl), rfl⟩
theorem rune1_w2 (s : ByteArray) (w : World) (h0 : 0 < s.size) (hs : s.size ≤ 9223372036854775807) (hb : oc s 0 = 224) : Calls Tryz.prog 131 #[.string s] w fun en w' => en = .returned (.int .i64 (rune1 s 0)) ∧ w = w' := by
  obtain ⟨hgood, hbad⟩ := way2 h0 hb; obtain ⟨R, hR⟩ : ∃ R, rune1 s 0 = R := ⟨_, rfl⟩; rw [hR] at hgood hbad ⊢
  have ho := fun (i : Nat) w (h : i ≤ 9223372036854775807) => octR_c s i w h hs
  have HO0 := ho 0 w (by omega); have hl0 := oc_lt s 0; obtain ⟨c0, hc0⟩ : ∃ c, oc s 0 = c := ⟨_, rfl⟩; rw [hc0] at hb HO0 hl0; have HO := Lib.hid ho; have HZ := Lib.hid HO0; have HG := Lib.hid hgood; have HB := Lib.hid hbad; clear ho HO0 hgood hbad hR hc0; subst hb; go_enter Tryz.func131, Tryz.ntmps131
  go_wp2_with (go_at_call 151; refine HZ.out.mono ?_; rintro en w1 ⟨rfl, rfl⟩)
  go_loop [5, 6, 7] (fun vl vh vi => ∃ (k : Nat) (lo hi : Int), vl = .int .i64 lo ∧ vh = .int .i64 hi ∧ vi = .int .i64 k ∧ 1 ≤ k ∧ k ≤ 3 ∧ RowKit.Hid (lo = loI 160 k ∧ hi = hiI 191 k) ∧ RowKit.Hid (∀ j, 1 ≤ j → j < k → goodB s 160 191 j)) (fun _ _ vi => 3 - (intOf vi).toNat)
  case atStart => exact ⟨1, 160, 191, rfl, rfl, rfl, by omega, by omega, Lib.hid ⟨rfl, rfl⟩, Lib.hid (fun j h1 h2 => by omega)⟩
  case round =>
    obtain ⟨k, lo, hi, rfl, rfl, rfl, hk1, hk, HLH, HGO⟩ := hrel; by_cases hlt : k < 3
    · have hkI : (k : Int) < 3 := by omega
      have HOk := HO.out k w (by omega); obtain ⟨c, hc⟩ : ∃ c, oc s k = c := ⟨_, rfl⟩; rw [hc] at HOk; have HK := Lib.hid hc; have HOK := Lib.hid HOk; clear hc HOk; by_cases hl : c < lo
      · have HR := Lib.hid (HB.out k hk1 hlt (fun g => by have h1 := g.1; rw [← HLH.out.1, HK.out] at h1; omega))
        have hl1 : decide (c < lo) = true := decide_eq_true hl
        go_wp2_with (go_at_call 151; refine HOK.out.mono ?_; rintro en w1 ⟨rfl, rfl⟩)
        go_ret; exact ⟨retI (by rw [HR.out]; rfl), rfl⟩
      · have hl1 : decide (c < lo) = false := decide_eq_false hl
        by_cases hh : hi < c
        · have HR := Lib.hid (HB.out k hk1 hlt (fun g => by have h1 := g.2; rw [← HLH.out.2, HK.out] at h1; omega))
          have hh1 : decide (hi < c) = true := decide_eq_true hh
          go_wp2_with (go_at_call 151; refine HOK.out.mono ?_; rintro en w1 ⟨rfl, rfl⟩)
          go_ret; exact ⟨retI (by rw [HR.out]; rfl), rfl⟩
        · have hh1 : decide (hi < c) = false := decide_eq_false hh
          have hg : goodB s 160 191 k := ⟨by rw [← HLH.out.1, HK.out]; omega, by rw [← HLH.out.2, HK.out]; omega⟩; have HG2 := Lib.hid (show ∀ j, 1 ≤ j → j < k + 1 → goodB s 160 191 j from fun j h1 h2 => by rcases Nat.lt_or_ge j k with h | h; exact HGO.out j h1 h; (obtain rfl : j = k := (by omega)); exact hg); have HL2 := Lib.hid (show (128 : Int) = loI 160 (k + 1) ∧ (191 : Int) = hiI 191 (k + 1) from ⟨(if_neg (by omega)).symm, (if_neg (by omega)).symm⟩); clear hg hl hh
          go_wp2_with (go_at_call 151; refine HOK.out.mono ?_; rintro en w1 ⟨rfl, rfl⟩)
          exact ⟨⟨k + 1, 128, 191, rfl, rfl, by go_num, by omega, by omega, HL2, HG2⟩, by simp [intOf]; omega⟩
    · obtain rfl : k = 3 := by omega
      have HR := Lib.hid (HG.out HGO.out); go_wp2; go_ret; exact ⟨retI (by rw [HR.out]; rfl), rfl⟩
theorem rune1_w3 (s : ByteArray) (w : World) (h0 : 0 < s.size) (hs : s.size ≤ 9223372036854775807) (hb : oc s 0 = 237) : Calls Tryz.prog 131 #[.string s] w fun en w' => en = .returned (.int .i64 (rune1 s 0)) ∧ w = w' := by
  obtain ⟨hgood, hbad⟩ := way3 h0 hb; obtain ⟨R, hR⟩ : ∃ R, rune1 s 0 = R := ⟨_, rfl⟩; rw [hR] at hgood hbad ⊢
  have ho := fun (i : Nat) w (h : i ≤ 9223372036854775807) => octR_c s i w h hs
  have HO0 := ho 0 w (by omega); have hl0 := oc_lt s 0; obtain ⟨c0, hc0⟩ : ∃ c, oc s 0 = c := ⟨_, rfl⟩; rw [hc0] at hb HO0 hl0; have HO := Lib.hid ho; have HZ := Lib.hid HO0; have HG := Lib.hid hgood; have HB := Lib.hid hbad; clear ho HO0 hgood hbad hR hc0; subst hb; go_enter Tryz.func131, Tryz.ntmps131
  go_wp2_with (go_at_call 151; refine HZ.out.mono ?_; rintro en w1 ⟨rfl, rfl⟩)
  go_loop [5, 6, 7] (fun vl vh vi => ∃ (k : Nat) (lo hi : Int), vl = .int .i64 lo ∧ vh = .int .i64 hi ∧ vi = .int .i64 k ∧ 1 ≤ k ∧ k ≤ 3 ∧ RowKit.Hid (lo = loI 128 k ∧ hi = hiI 159 k) ∧ RowKit.Hid (∀ j, 1 ≤ j → j < k → goodB s 128 159 j)) (fun _ _ vi => 3 - (intOf vi).toNat)
  case atStart => exact ⟨1, 128, 159, rfl, rfl, rfl, by omega, by omega, Lib.hid ⟨rfl, rfl⟩, Lib.hid (fun j h1 h2 => by omega)⟩
  case round =>
    obtain ⟨k, lo, hi, rfl, rfl, rfl, hk1, hk, HLH, HGO⟩ := hrel; by_cases hlt : k < 3
    · have hkI : (k : Int) < 3 := by omega
      have HOk := HO.out k w (by omega); obtain ⟨c, hc⟩ : ∃ c, oc s k = c := ⟨_, rfl⟩; rw [hc] at HOk; have HK := Lib.hid hc; have HOK := Lib.hid HOk; clear hc HOk; by_cases hl : c < lo
      · have HR := Lib.hid (HB.out k hk1 hlt (fun g => by have h1 := g.1; rw [← HLH.out.1, HK.out] at h1; omega))
        have hl1 : decide (c < lo) = true := decide_eq_true hl
        go_wp2_with (go_at_call 151; refine HOK.out.mono ?_; rintro en w1 ⟨rfl, rfl⟩)
        go_ret; exact ⟨retI (by rw [HR.out]; rfl), rfl⟩
      · have hl1 : decide (c < lo) = false := decide_eq_false hl
        by_cases hh : hi < c
        · have HR := Lib.hid (HB.out k hk1 hlt (fun g => by have h1 := g.2; rw [← HLH.out.2, HK.out] at h1; omega))
          have hh1 : decide (hi < c) = true := decide_eq_true hh
          go_wp2_with (go_at_call 151; refine HOK.out.mono ?_; rintro en w1 ⟨rfl, rfl⟩)
          go_ret; exact ⟨retI (by rw [HR.out]; rfl), rfl⟩
        · have hh1 : decide (hi < c) = false := decide_eq_false hh
          have hg : goodB s 128 159 k := ⟨by rw [← HLH.out.1, HK.out]; omega, by rw [← HLH.out.2, HK.out]; omega⟩; have HG2 := Lib.hid (show ∀ j, 1 ≤ j → j < k + 1 → goodB s 128 159 j from fun j h1 h2 => by rcases Nat.lt_or_ge j k with h | h; exact HGO.out j h1 h; (obtain rfl : j = k := (by omega)); exact hg); have HL2 := Lib.hid (show (128 : Int) = loI 128 (k + 1) ∧ (191 : Int) = hiI 159 (k + 1) from ⟨(if_neg (by omega)).symm, (if_neg (by omega)).symm⟩); clear hg hl hh
          go_wp2_with (go_at_call 151; refine HOK.out.mono ?_; rintro en w1 ⟨rfl, rfl⟩)
          exact ⟨⟨k + 1, 128, 191, rfl, rfl, by go_num, by omega, by omega, HL2, HG2⟩, by simp [intOf]; omega⟩
    · obtain rfl : k = 3 := by omega
      have HR := Lib.hid (HG.out HGO.out); go_wp2; go_ret; exact ⟨retI (by rw [HR.out]; rfl), rfl⟩
theorem rune1_w4 (s : ByteArray) (w : World) (h0 : 0 < s.size) (hs : s.size ≤ 9223372036854775807) (hb : 225 ≤ oc s 0 ∧ oc s 0 ≤ 239 ∧ oc s 0 ≠ 237) : Calls Tryz.prog 131 #[.string s] w fun en w' => en = .returned (.int .i64 (rune1 s 0)) ∧ w = w' := by
  obtain ⟨hgood, hbad⟩ := way4 h0 hb; obtain ⟨R, hR⟩ : ∃ R, rune1 s 0 = R := ⟨_, rfl⟩; rw [hR] at hgood hbad ⊢
  have ho := fun (i : Nat) w (h : i ≤ 9223372036854775807) => octR_c s i w h hs
  have HO0 := ho 0 w (by omega); have hl0 := oc_lt s 0; obtain ⟨c0, hc0⟩ : ∃ c, oc s 0 = c := ⟨_, rfl⟩; rw [hc0] at hb HO0 hl0; have HO := Lib.hid ho; have HZ := Lib.hid HO0; have HG := Lib.hid hgood; have HB := Lib.hid hbad; clear ho HO0 hgood hbad hR hc0
  have r194 : c0 < 194 ∨ 223 < c0 := by omega
  have e224 : (c0 == 224) = false := by simp; omega
  have e237 : (c0 == 237) = false := by simp; omega
  have f225 : decide ((225 : Int) ≤ c0) = true := by simp; omega
  have g225 : decide (c0 ≤ 239) = true := by simp; omega
  go_enter Tryz.func131, Tryz.ntmps131
  go_wp2_with (go_at_call 151; refine HZ.out.mono ?_; rintro en w1 ⟨rfl, rfl⟩)
  go_loop [5, 6, 7] (fun vl vh vi => ∃ (k : Nat) (lo hi : Int), vl = .int .i64 lo ∧ vh = .int .i64 hi ∧ vi = .int .i64 k ∧ 1 ≤ k ∧ k ≤ 3 ∧ RowKit.Hid (lo = loI 128 k ∧ hi = hiI 191 k) ∧ RowKit.Hid (∀ j, 1 ≤ j → j < k → goodB s 128 191 j)) (fun _ _ vi => 3 - (intOf vi).toNat)
  case atStart => exact ⟨1, 128, 191, rfl, rfl, rfl, by omega, by omega, Lib.hid ⟨rfl, rfl⟩, Lib.hid (fun j h1 h2 => by omega)⟩
  case round =>
    obtain ⟨k, lo, hi, rfl, rfl, rfl, hk1, hk, HLH, HGO⟩ := hrel; by_cases hlt : k < 3
    · have hkI : (k : Int) < 3 := by omega
      have HOk := HO.out k w (by omega); obtain ⟨c, hc⟩ : ∃ c, oc s k = c := ⟨_, rfl⟩; rw [hc] at HOk; have HK := Lib.hid hc; have HOK := Lib.hid HOk; clear hc HOk; by_cases hl : c < lo
      · have HR := Lib.hid (HB.out k hk1 hlt (fun g => by have h1 := g.1; rw [← HLH.out.1, HK.out] at h1; omega))
        have hl1 : decide (c < lo) = true := decide_eq_true hl
        go_wp2_with (go_at_call 151; refine HOK.out.mono ?_; rintro en w1 ⟨rfl, rfl⟩)
        go_ret; exact ⟨retI (by rw [HR.out]; rfl), rfl⟩
      · have hl1 : decide (c < lo) = false := decide_eq_false hl
        by_cases hh : hi < c
        · have HR := Lib.hid (HB.out k hk1 hlt (fun g => by have h1 := g.2; rw [← HLH.out.2, HK.out] at h1; omega))
          have hh1 : decide (hi < c) = true := decide_eq_true hh
          go_wp2_with (go_at_call 151; refine HOK.out.mono ?_; rintro en w1 ⟨rfl, rfl⟩)
          go_ret; exact ⟨retI (by rw [HR.out]; rfl), rfl⟩
        · have hh1 : decide (hi < c) = false := decide_eq_false hh
          have hg : goodB s 128 191 k := ⟨by rw [← HLH.out.1, HK.out]; omega, by rw [← HLH.out.2, HK.out]; omega⟩; have HG2 := Lib.hid (show ∀ j, 1 ≤ j → j < k + 1 → goodB s 128 191 j from fun j h1 h2 => by rcases Nat.lt_or_ge j k with h | h; exact HGO.out j h1 h; (obtain rfl : j = k := (by omega)); exact hg); have HL2 := Lib.hid (show (128 : Int) = loI 128 (k + 1) ∧ (191 : Int) = hiI 191 (k + 1) from ⟨(if_neg (by omega)).symm, (if_neg (by omega)).symm⟩); clear hg hl hh
          go_wp2_with (go_at_call 151; refine HOK.out.mono ?_; rintro en w1 ⟨rfl, rfl⟩)
          exact ⟨⟨k + 1, 128, 191, rfl, rfl, by go_num, by omega, by omega, HL2, HG2⟩, by simp [intOf]; omega⟩
    · obtain rfl : k = 3 := by omega
      have HR := Lib.hid (HG.out HGO.out); go_wp2; go_ret; exact ⟨retI (by rw [HR.out]; rfl), rfl⟩
theorem rune1_w5 (s : ByteArray) (w : World) (h0 : 0 < s.size) (hs : s.size ≤ 9223372036854775807) (hb : oc s 0 = 240) : Calls Tryz.prog 131 #[.string s] w fun en w' => en = .returned (.int .i64 (rune1 s 0)) ∧ w = w' := by
  obtain ⟨hgood, hbad⟩ := way5 h0 hb; obtain ⟨R, hR⟩ : ∃ R, rune1 s 0 = R := ⟨_, rfl⟩; rw [hR] at hgood hbad ⊢
  have ho := fun (i : Nat) w (h : i ≤ 9223372036854775807) => octR_c s i w h hs
  have HO0 := ho 0 w (by omega); have hl0 := oc_lt s 0; obtain ⟨c0, hc0⟩ : ∃ c, oc s 0 = c := ⟨_, rfl⟩; rw [hc0] at hb HO0 hl0; have HO := Lib.hid ho; have HZ := Lib.hid HO0; have HG := Lib.hid hgood; have HB := Lib.hid hbad; clear ho HO0 hgood hbad hR hc0; subst hb; go_enter Tryz.func131, Tryz.ntmps131
  go_wp2_with (go_at_call 151; refine HZ.out.mono ?_; rintro en w1 ⟨rfl, rfl⟩)
  go_loop [5, 6, 7] (fun vl vh vi => ∃ (k : Nat) (lo hi : Int), vl = .int .i64 lo ∧ vh = .int .i64 hi ∧ vi = .int .i64 k ∧ 1 ≤ k ∧ k ≤ 4 ∧ RowKit.Hid (lo = loI 144 k ∧ hi = hiI 191 k) ∧ RowKit.Hid (∀ j, 1 ≤ j → j < k → goodB s 144 191 j)) (fun _ _ vi => 4 - (intOf vi).toNat)
  case atStart => exact ⟨1, 144, 191, rfl, rfl, rfl, by omega, by omega, Lib.hid ⟨rfl, rfl⟩, Lib.hid (fun j h1 h2 => by omega)⟩
  case round =>
    obtain ⟨k, lo, hi, rfl, rfl, rfl, hk1, hk, HLH, HGO⟩ := hrel; by_cases hlt : k < 4
    · have hkI : (k : Int) < 4 := by omega
      have HOk := HO.out k w (by omega); obtain ⟨c, hc⟩ : ∃ c, oc s k = c := ⟨_, rfl⟩; rw [hc] at HOk; have HK := Lib.hid hc; have HOK := Lib.hid HOk; clear hc HOk; by_cases hl : c < lo
      · have HR := Lib.hid (HB.out k hk1 hlt (fun g => by have h1 := g.1; rw [← HLH.out.1, HK.out] at h1; omega))
        have hl1 : decide (c < lo) = true := decide_eq_true hl
        go_wp2_with (go_at_call 151; refine HOK.out.mono ?_; rintro en w1 ⟨rfl, rfl⟩)
        go_ret; exact ⟨retI (by rw [HR.out]; rfl), rfl⟩
      · have hl1 : decide (c < lo) = false := decide_eq_false hl
        by_cases hh : hi < c
        · have HR := Lib.hid (HB.out k hk1 hlt (fun g => by have h1 := g.2; rw [← HLH.out.2, HK.out] at h1; omega))
          have hh1 : decide (hi < c) = true := decide_eq_true hh
          go_wp2_with (go_at_call 151; refine HOK.out.mono ?_; rintro en w1 ⟨rfl, rfl⟩)
          go_ret; exact ⟨retI (by rw [HR.out]; rfl), rfl⟩
        · have hh1 : decide (hi < c) = false := decide_eq_false hh
          have hg : goodB s 144 191 k := ⟨by rw [← HLH.out.1, HK.out]; omega, by rw [← HLH.out.2, HK.out]; omega⟩; have HG2 := Lib.hid (show ∀ j, 1 ≤ j → j < k + 1 → goodB s 144 191 j from fun j h1 h2 => by rcases Nat.lt_or_ge j k with h | h; exact HGO.out j h1 h; (obtain rfl : j = k := (by omega)); exact hg); have HL2 := Lib.hid (show (128 : Int) = loI 144 (k + 1) ∧ (191 : Int) = hiI 191 (k + 1) from ⟨(if_neg (by omega)).symm, (if_neg (by omega)).symm⟩); clear hg hl hh
          go_wp2_with (go_at_call 151; refine HOK.out.mono ?_; rintro en w1 ⟨rfl, rfl⟩)
          exact ⟨⟨k + 1, 128, 191, rfl, rfl, by go_num, by omega, by omega, HL2, HG2⟩, by simp [intOf]; omega⟩
    · obtain rfl : k = 4 := by omega
      have HR := Lib.hid (HG.out HGO.out); go_wp2; go_ret; exact ⟨retI (by rw [HR.out]; rfl), rfl⟩
theorem rune1_w6 (s : ByteArray) (w : World) (h0 : 0 < s.size) (hs : s.size ≤ 9223372036854775807) (hb : oc s 0 = 244) : Calls Tryz.prog 131 #[.string s] w fun en w' => en = .returned (.int .i64 (rune1 s 0)) ∧ w = w' := by
  obtain ⟨hgood, hbad⟩ := way6 h0 hb; obtain ⟨R, hR⟩ : ∃ R, rune1 s 0 = R := ⟨_, rfl⟩; rw [hR] at hgood hbad ⊢
  have ho := fun (i : Nat) w (h : i ≤ 9223372036854775807) => octR_c s i w h hs
  have HO0 := ho 0 w (by omega); have hl0 := oc_lt s 0; obtain ⟨c0, hc0⟩ : ∃ c, oc s 0 = c := ⟨_, rfl⟩; rw [hc0] at hb HO0 hl0; have HO := Lib.hid ho; have HZ := Lib.hid HO0; have HG := Lib.hid hgood; have HB := Lib.hid hbad; clear ho HO0 hgood hbad hR hc0; subst hb; go_enter Tryz.func131, Tryz.ntmps131
  go_wp2_with (go_at_call 151; refine HZ.out.mono ?_; rintro en w1 ⟨rfl, rfl⟩)
  go_loop [5, 6, 7] (fun vl vh vi => ∃ (k : Nat) (lo hi : Int), vl = .int .i64 lo ∧ vh = .int .i64 hi ∧ vi = .int .i64 k ∧ 1 ≤ k ∧ k ≤ 4 ∧ RowKit.Hid (lo = loI 128 k ∧ hi = hiI 143 k) ∧ RowKit.Hid (∀ j, 1 ≤ j → j < k → goodB s 128 143 j)) (fun _ _ vi => 4 - (intOf vi).toNat)
  case atStart => exact ⟨1, 128, 143, rfl, rfl, rfl, by omega, by omega, Lib.hid ⟨rfl, rfl⟩, Lib.hid (fun j h1 h2 => by omega)⟩
  case round =>
    obtain ⟨k, lo, hi, rfl, rfl, rfl, hk1, hk, HLH, HGO⟩ := hrel; by_cases hlt : k < 4
    · have hkI : (k : Int) < 4 := by omega
      have HOk := HO.out k w (by omega); obtain ⟨c, hc⟩ : ∃ c, oc s k = c := ⟨_, rfl⟩; rw [hc] at HOk; have HK := Lib.hid hc; have HOK := Lib.hid HOk; clear hc HOk; by_cases hl : c < lo
      · have HR := Lib.hid (HB.out k hk1 hlt (fun g => by have h1 := g.1; rw [← HLH.out.1, HK.out] at h1; omega))
        have hl1 : decide (c < lo) = true := decide_eq_true hl
        go_wp2_with (go_at_call 151; refine HOK.out.mono ?_; rintro en w1 ⟨rfl, rfl⟩)
        go_ret; exact ⟨retI (by rw [HR.out]; rfl), rfl⟩
      · have hl1 : decide (c < lo) = false := decide_eq_false hl
        by_cases hh : hi < c
        · have HR := Lib.hid (HB.out k hk1 hlt (fun g => by have h1 := g.2; rw [← HLH.out.2, HK.out] at h1; omega))
          have hh1 : decide (hi < c) = true := decide_eq_true hh
          go_wp2_with (go_at_call 151; refine HOK.out.mono ?_; rintro en w1 ⟨rfl, rfl⟩)
          go_ret; exact ⟨retI (by rw [HR.out]; rfl), rfl⟩
        · have hh1 : decide (hi < c) = false := decide_eq_false hh
          have hg : goodB s 128 143 k := ⟨by rw [← HLH.out.1, HK.out]; omega, by rw [← HLH.out.2, HK.out]; omega⟩; have HG2 := Lib.hid (show ∀ j, 1 ≤ j → j < k + 1 → goodB s 128 143 j from fun j h1 h2 => by rcases Nat.lt_or_ge j k with h | h; exact HGO.out j h1 h; (obtain rfl : j = k := (by omega)); exact hg); have HL2 := Lib.hid (show (128 : Int) = loI 128 (k + 1) ∧ (191 : Int) = hiI 143 (k + 1) from ⟨(if_neg (by omega)).symm, (if_neg (by omega)).symm⟩); clear hg hl hh
          go_wp2_with (go_at_call 151; refine HOK.out.mono ?_; rintro en w1 ⟨rfl, rfl⟩)
          exact ⟨⟨k + 1, 128, 191, rfl, rfl, by go_num, by omega, by omega, HL2, HG2⟩, by simp [intOf]; omega⟩
    · obtain rfl : k = 4 := by omega
      have HR := Lib.hid (HG.out HGO.out); go_wp2; go_ret; exact ⟨retI (by rw [HR.out]; rfl), rfl⟩
theorem rune1_w7 (s : ByteArray) (w : World) (h0 : 0 < s.size) (hs : s.size ≤ 9223372036854775807) (hb : 241 ≤ oc s 0 ∧ oc s 0 ≤ 243) : Calls Tryz.prog 131 #[.string s] w fun en w' => en = .returned (.int .i64 (rune1 s 0)) ∧ w = w' := by
  obtain ⟨hgood, hbad⟩ := way7 h0 hb; obtain ⟨R, hR⟩ : ∃ R, rune1 s 0 = R := ⟨_, rfl⟩; rw [hR] at hgood hbad ⊢
  have ho := fun (i : Nat) w (h : i ≤ 9223372036854775807) => octR_c s i w h hs
  have HO0 := ho 0 w (by omega); have hl0 := oc_lt s 0; obtain ⟨c0, hc0⟩ : ∃ c, oc s 0 = c := ⟨_, rfl⟩; rw [hc0] at hb HO0 hl0; have HO := Lib.hid ho; have HZ := Lib.hid HO0; have HG := Lib.hid hgood; have HB := Lib.hid hbad; clear ho HO0 hgood hbad hR hc0
  have r194 : c0 < 194 ∨ 223 < c0 := by omega
  have e224 : (c0 == 224) = false := by simp; omega
  have e237 : (c0 == 237) = false := by simp; omega
  have r225 : c0 < 225 ∨ 239 < c0 := by omega
  have e240 : (c0 == 240) = false := by simp; omega
  have e244 : (c0 == 244) = false := by simp; omega
  have f241 : decide ((241 : Int) ≤ c0) = true := by simp; omega
  have g241 : decide (c0 ≤ 243) = true := by simp; omega
  go_enter Tryz.func131, Tryz.ntmps131
  go_wp2_with (go_at_call 151; refine HZ.out.mono ?_; rintro en w1 ⟨rfl, rfl⟩)
  go_loop [5, 6, 7] (fun vl vh vi => ∃ (k : Nat) (lo hi : Int), vl = .int .i64 lo ∧ vh = .int .i64 hi ∧ vi = .int .i64 k ∧ 1 ≤ k ∧ k ≤ 4 ∧ RowKit.Hid (lo = loI 128 k ∧ hi = hiI 191 k) ∧ RowKit.Hid (∀ j, 1 ≤ j → j < k → goodB s 128 191 j)) (fun _ _ vi => 4 - (intOf vi).toNat)
  case atStart => exact ⟨1, 128, 191, rfl, rfl, rfl, by omega, by omega, Lib.hid ⟨rfl, rfl⟩, Lib.hid (fun j h1 h2 => by omega)⟩
  case round =>
    obtain ⟨k, lo, hi, rfl, rfl, rfl, hk1, hk, HLH, HGO⟩ := hrel; by_cases hlt : k < 4
    · have hkI : (k : Int) < 4 := by omega
      have HOk := HO.out k w (by omega); obtain ⟨c, hc⟩ : ∃ c, oc s k = c := ⟨_, rfl⟩; rw [hc] at HOk; have HK := Lib.hid hc; have HOK := Lib.hid HOk; clear hc HOk; by_cases hl : c < lo
      · have HR := Lib.hid (HB.out k hk1 hlt (fun g => by have h1 := g.1; rw [← HLH.out.1, HK.out] at h1; omega))
        have hl1 : decide (c < lo) = true := decide_eq_true hl
        go_wp2_with (go_at_call 151; refine HOK.out.mono ?_; rintro en w1 ⟨rfl, rfl⟩)
        go_ret; exact ⟨retI (by rw [HR.out]; rfl), rfl⟩
      · have hl1 : decide (c < lo) = false := decide_eq_false hl
        by_cases hh : hi < c
        · have HR := Lib.hid (HB.out k hk1 hlt (fun g => by have h1 := g.2; rw [← HLH.out.2, HK.out] at h1; omega))
          have hh1 : decide (hi < c) = true := decide_eq_true hh
          go_wp2_with (go_at_call 151; refine HOK.out.mono ?_; rintro en w1 ⟨rfl, rfl⟩)
          go_ret; exact ⟨retI (by rw [HR.out]; rfl), rfl⟩
        · have hh1 : decide (hi < c) = false := decide_eq_false hh
          have hg : goodB s 128 191 k := ⟨by rw [← HLH.out.1, HK.out]; omega, by rw [← HLH.out.2, HK.out]; omega⟩; have HG2 := Lib.hid (show ∀ j, 1 ≤ j → j < k + 1 → goodB s 128 191 j from fun j h1 h2 => by rcases Nat.lt_or_ge j k with h | h; exact HGO.out j h1 h; (obtain rfl : j = k := (by omega)); exact hg); have HL2 := Lib.hid (show (128 : Int) = loI 128 (k + 1) ∧ (191 : Int) = hiI 191 (k + 1) from ⟨(if_neg (by omega)).symm, (if_neg (by omega)).symm⟩); clear hg hl hh
          go_wp2_with (go_at_call 151; refine HOK.out.mono ?_; rintro en w1 ⟨rfl, rfl⟩)
          exact ⟨⟨k + 1, 128, 191, rfl, rfl, by go_num, by omega, by omega, HL2, HG2⟩, by simp [intOf]; omega⟩
    · obtain rfl : k = 4 := by omega
      have HR := Lib.hid (HG.out HGO.out); go_wp2; go_ret; exact ⟨retI (by rw [HR.out]; rfl), rfl⟩
theorem rune1_na (s : ByteArray) (w : World) (h0 : 0 < s.size) (hs : s.size ≤ 9223372036854775807) (hb : 128 ≤ oc s 0 ∧ oc s 0 ≤ 193) : Calls Tryz.prog 131 #[.string s] w fun en w' => en = .returned (.int .i64 (rune1 s 0)) ∧ w = w' := by
  have hr : rune1 s 0 = 0 := by
    have e0 : oc s 0 = ((s.get! 0).toNat : Int) := if_pos h0; rw [e0] at hb; unfold rune1 rune1N; simp only [Nat.zero_add, Nat.sub_zero]
    repeat' (first | rw [if_pos (by omega)] | rw [if_neg (by omega)])
  rw [hr]; have HO0 := octR_c s 0 w (by omega) hs; have hl0 := oc_lt s 0; obtain ⟨c0, hc0⟩ : ∃ c, oc s 0 = c := ⟨_, rfl⟩; rw [hc0] at hb HO0 hl0; have HZ := Lib.hid HO0; clear HO0 hc0 hr
  have r1 : decide ((194 : Int) ≤ c0) = false := by simp; omega
  have r2 : decide ((225 : Int) ≤ c0) = false := by simp; omega
  have r3 : decide ((241 : Int) ≤ c0) = false := by simp; omega
  have e224 : (c0 == 224) = false := by simp; omega
  have e237 : (c0 == 237) = false := by simp; omega
  have e240 : (c0 == 240) = false := by simp; omega
  have e244 : (c0 == 244) = false := by simp; omega
  have t127 : decide ((127 : Int) < c0) = true := by simp; omega
  go_enter Tryz.func131, Tryz.ntmps131
  go_wp2_with (go_at_call 151; refine HZ.out.mono ?_; rintro en w1 ⟨rfl, rfl⟩)
  all_goals (go_ret; exact ⟨rfl, rfl⟩)
theorem rune1_nb (s : ByteArray) (w : World) (h0 : 0 < s.size) (hs : s.size ≤ 9223372036854775807) (hb : 245 ≤ oc s 0) : Calls Tryz.prog 131 #[.string s] w fun en w' => en = .returned (.int .i64 (rune1 s 0)) ∧ w = w' := by
  have hr : rune1 s 0 = 0 := by
    have e0 : oc s 0 = ((s.get! 0).toNat : Int) := if_pos h0; rw [e0] at hb; unfold rune1 rune1N; simp only [Nat.zero_add, Nat.sub_zero]
    repeat' (first | rw [if_pos (by omega)] | rw [if_neg (by omega)])
  rw [hr]; have HO0 := octR_c s 0 w (by omega) hs; have hl0 := oc_lt s 0; obtain ⟨c0, hc0⟩ : ∃ c, oc s 0 = c := ⟨_, rfl⟩; rw [hc0] at hb HO0 hl0; have HZ := Lib.hid HO0; clear HO0 hc0 hr
  have r1 : decide (c0 ≤ 223) = false := by simp; omega
  have r2 : decide (c0 ≤ 239) = false := by simp; omega
  have r3 : decide (c0 ≤ 243) = false := by simp; omega
  have e224 : (c0 == 224) = false := by simp; omega
  have e237 : (c0 == 237) = false := by simp; omega
  have e240 : (c0 == 240) = false := by simp; omega
  have e244 : (c0 == 244) = false := by simp; omega
  have t127 : decide ((127 : Int) < c0) = true := by simp; omega
  go_enter Tryz.func131, Tryz.ntmps131
  go_wp2_with (go_at_call 151; refine HZ.out.mono ?_; rintro en w1 ⟨rfl, rfl⟩)
  all_goals (go_ret; exact ⟨rfl, rfl⟩)
theorem rune1R_c (s : ByteArray) (w : World) (h0 : 0 < s.size) (hs : s.size ≤ 9223372036854775807) : Calls Tryz.prog 131 #[.string s] w fun en w' => en = .returned (.int .i64 (rune1 s 0)) ∧ w = w' := by
  have hl := oc_lt s 0; have h1 : oc s 0 = ((s.get! 0).toNat : Int) := if_pos h0; rcases (by omega : oc s 0 ≤ 127 ∨ (128 ≤ oc s 0 ∧ oc s 0 ≤ 193) ∨ (194 ≤ oc s 0 ∧ oc s 0 ≤ 223) ∨ oc s 0 = 224 ∨ (225 ≤ oc s 0 ∧ oc s 0 ≤ 239 ∧ oc s 0 ≠ 237) ∨ oc s 0 = 237 ∨ oc s 0 = 240 ∨ (241 ≤ oc s 0 ∧ oc s 0 ≤ 243) ∨ oc s 0 = 244 ∨ 245 ≤ oc s 0) with h | h | h | h | h | h | h | h | h | h
  · exact rune1_w0 s w h0 hs h
  · exact rune1_na s w h0 hs h
  · exact rune1_w1 s w h0 hs h
  · exact rune1_w2 s w h0 hs h
  · exact rune1_w4 s w h0 hs h
  · exact rune1_w3 s w h0 hs h
  · exact rune1_w5 s w h0 hs h
  · exact rune1_w7 s w h0 hs h
  · exact rune1_w6 s w h0 hs h
  · exact rune1_nb s w h0 hs h
theorem rune1_ext (s : ByteArray) (p : Nat) (hp : p ≤ s.size) : rune1 (s.extract p s.size) 0 = rune1 s p := by
  have hsz : (s.extract p s.size).size = s.size - p := by simp
  have h := fun i => get_ext s p i hp
  unfold rune1; rw [hsz, h, h, h, h, Nat.sub_zero]; rfl
theorem ext_ext (s : ByteArray) (p q : Nat) (hq : p + q ≤ s.size) : (s.extract p s.size).extract q (s.extract p s.size).size = s.extract (p + q) s.size := by
  apply ByteArray.ext; simp only [ByteArray.data_extract, ByteArray.size_extract]; rw [Array.extract_extract]
  congr 1
  omega
theorem runesR_c (s : ByteArray) (w : World) (hs : s.size ≤ 9223372036854775807) : Calls Tryz.prog 108 #[.string s] w fun en w' => en = .returned (.tuple #[.int .i64 (runes s).1, .bool (runes s).2]) ∧ w = w' := by
  obtain ⟨R, hR⟩ : ∃ R, runes s = R := ⟨_, rfl⟩; have HR := Lib.hid hR; rw [hR]
  have h00 : s = s.extract 0 s.size := by simp
  clear hR; go_enter Tryz.func108, Tryz.ntmps108; go_wp2
  go_loop [0, 4, 5] (fun v0 vn vf => ∃ (n p : Nat) (fb : Bool), v0 = .string (s.extract p s.size) ∧ vn = .int .i64 n ∧ vf = .bool fb ∧ p ≤ s.size ∧ n ≤ p ∧ RowKit.Hid (runes s = (n + (runesAt s p).1, fb && (runesAt s p).2))) (fun v0 _ _ => match v0 with | .string t => t.size | _ => 0)
  case atStart => exact ⟨0, 0, true, by rw [← h00], rfl, rfl, Nat.zero_le _, Nat.le_refl _, Lib.hid (by simp [runes])⟩
  case round =>
    clear h00; obtain ⟨n, p, fb, rfl, rfl, rfl, hp, hn, HI⟩ := hrel
    have hsz : (s.extract p s.size).size = s.size - p := by simp
    by_cases hlt : p < s.size
    · have hst := step1_le s p hlt
      have hsp := step1_pos s p
      have hD := fun w1 => rune1R_c (s.extract p s.size) w1 (by omega) (by omega)
      rw [rune1_ext s p hp] at hD; have HST := Lib.hid (runesAt_step s p hlt)
      have hq0 : step1 s p = if rune1 s p = 0 then 1 else rune1 s p := rfl
      obtain ⟨q, hq⟩ : ∃ q, step1 s p = q := ⟨_, rfl⟩; obtain ⟨k, hk⟩ : ∃ k, rune1 s p = k := ⟨_, rfl⟩; rw [hq] at hst hsp HST hq0; rw [hk] at hD HST hq0; have hx := ext_ext s p q hst; have HX := Lib.hid hx; have HD := Lib.hid hD; have HSZ := Lib.hid hsz; obtain ⟨t, ht⟩ : ∃ t, s.extract p s.size = t := ⟨_, rfl⟩; have HT := Lib.hid ht
      have htz : q ≤ t.size := by rw [← ht, hsz]; omega
      have htp : 0 < t.size := by rw [← ht, hsz]; omega
      have hts : t.size ≤ 9223372036854775807 := by rw [← ht, hsz]; omega
      rw [ht] at HX HD ⊢
      have htI : (0 : Int) < (t.size : Int) := by omega
      clear hD hk hq hx hsz ht; by_cases h0 : k = 0
      · subst h0
        obtain rfl : q = 1 := by simpa using hq0
        have HN := Lib.hid (show runes s = ((n + 1) + (runesAt s (p + 1)).1, false && (runesAt s (p + 1)).2) by have := runes_next (kb := false) HI.out HST.out (by simp); rwa [Bool.and_false] at this); clear hq0
        go_wp2_with (go_at_call 131; refine (HD.out _).mono ?_; rintro en w5 ⟨rfl, rfl⟩)
        exact ⟨⟨n + 1, p + 1, false, by rw [HX.out], by go_num, rfl, hst, by omega, HN⟩, by show (t.extract 1 t.size).size < t.size; simp; omega⟩
      · obtain rfl : q = k := by rw [if_neg h0] at hq0; exact hq0
        have HN := Lib.hid (show runes s = ((n + 1) + (runesAt s (p + q)).1, fb && (runesAt s (p + q)).2) by have := runes_next (kb := true) HI.out HST.out (by simp [h0]); rwa [Bool.and_true] at this)
        have hqb : ((q : Int) == 0) = false := by simp; omega
        have hqI : (q : Int) ≤ (t.size : Int) := by omega
        clear hq0 h0
        go_wp2_with (go_at_call 131; refine (HD.out _).mono ?_; rintro en w5 ⟨rfl, rfl⟩)
        exact ⟨⟨n + 1, p + q, fb, by rw [HX.out], by go_num, rfl, hst, by omega, HN⟩, by show (t.extract q t.size).size < t.size; simp; omega⟩
    · have he := runesAt_end s p hlt
      have HI2 := HI.out; rw [he] at HI2; have HI3 := Lib.hid HI2
      have ht0 : ¬ (0 : Int) < ((s.extract p s.size).size : Int) := by rw [hsz]; omega
      clear HI2 he hsz; obtain ⟨t, ht⟩ : ∃ t, s.extract p s.size = t := ⟨_, rfl⟩; rw [ht] at ht0 ⊢; clear ht; go_wp2
      go_ret2
      exact ⟨by rw [← HR.out, HI3.out]; simp, rfl⟩
end Go.Proofs.YtpkonagjnfphkaaGreatDoor
