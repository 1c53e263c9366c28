/-
  Contracts of octet's small functions: widths, is, fits, Least; and of the reference's Width.
-/
import Derived.Test.YtinohligpncpiaaBytes
namespace Go.Proofs.Ytinohligpncpiaa
open Go.RowKit
set_option linter.unusedSimpArgs false
set_option linter.unusedVariables false

/-- slices.Index of numbers. -/
theorem indexI_c (l : List Int) (v : Value) (n : Nat) (x : Int) (w : World) (hv : Sl w 1 v n (l.map (.int .i64))) (hn : n ≤ 9223372036854775807) :
    Calls Try.prog 42 #[v, .int .i64 x] w fun e w' => e = .returned (.int .i64 (idx (fun y => x == y) l)) ∧ w = w' := by
  have hln : l.length = n := by have := hv.1; simpa using this
  obtain ⟨a1, c1, rfl⟩ := hv.len
  have Hln := Lib.hid hln; clear hln
  go_enter Try.func42, Try.ntmps42
  go_wp2
  go_loop [8] (fun i => ∃ k : Nat, k ≤ n ∧ i = .int .i64 k ∧ (∀ j, j < k → ∀ hj : j < l.length, (x == l[j]) = false)) (fun i => n - (intOf i).toNat)
  case atStart => exact ⟨0, Nat.zero_le _, rfl, by intro j hj; omega⟩
  case round =>
    obtain ⟨k, hk, rfl, hno⟩ := hrel
    have Hno := Lib.hid hno; clear hno
    by_cases hlt : k < n
    · have hlt' : k < l.length := by rw [Hln.out]; exact hlt
      obtain ⟨b, off, rfl, hc⟩ := hv.cellAt (k := k) (by omega) (by omega)
      have hc1 : w.cell? ⟨b, off + k, none⟩ = some (.int .i64 l[k]) := by
        simpa [hlt'] using hc
      clear hc
      cases hpk : (x == l[k]) with
      | true =>
        go_wp2
        go_ret
        exact ⟨retI (idx_some (p := fun y => x == y) hlt' Hno.out hpk).symm, rfl⟩
      | false =>
        go_wp2
        go_round
        case rel =>
          refine ⟨k + 1, by omega, by go_num, fun j hj hj' => ?_⟩
          rcases Nat.lt_or_ge j k with h | h
          · exact Hno.out j h hj'
          · obtain rfl : j = k := by omega
            exact hpk
        case measure => simp [intOf]; omega
    · obtain rfl : k = n := by omega
      go_wp2
      go_ret
      exact ⟨retI (idx_none (p := fun y => x == y) fun j hj => Hno.out j (by rw [← Hln.out]; exact hj) hj).symm, rfl⟩

theorem containsI_c (l : List Int) (v : Value) (n : Nat) (x : Int) (w : World) (hv : Sl w 1 v n (l.map (.int .i64))) (hn : n ≤ 9223372036854775807) :
    Calls Try.prog 40 #[v, .int .i64 x] w fun e w' => e = .returned (.bool (l.any fun y => x == y)) ∧ w = w' := by
  go_enter Try.func40, Try.ntmps40
  go_wp2_with (go_at_call 42; refine (indexI_c l v n x _ hv hn).mono ?_; rintro e w1 ⟨rfl, rfl⟩)
  go_ret
  exact ⟨retB (idx_any _ l), rfl⟩

theorem widths_c (w : World) : Calls Try.prog 39 #[] w (Ret (.agg #[.int .i64 1, .int .i64 2, .int .i64 4, .int .i64 8]) w) := by
  go_enter Try.func39, Try.ntmps39
  go_wp2
  exact bodyPost_ret (v := .agg #[.int .i64 1, .int .i64 2, .int .i64 4, .int .i64 8]) (by simp [results, Try.results39, go_sem]) rfl ⟨rfl, below_alloc _ _⟩

namespace Oct
/-- Is it a width? -/
def okW (n : Int) : Bool := n == 1 || n == 2 || n == 4 || n == 8
theorem okW_any (n : Int) : ([1, 2, 4, 8].any fun y => n == y) = okW n := by simp [okW, Bool.or_assoc]
theorem okW_cases {n : Int} (h : okW n = true) : n = 1 ∨ n = 2 ∨ n = 4 ∨ n = 8 := by simpa [okW, or_assoc] using h
theorem mem4 {x : Int} (h : x ∈ [(1 : Int), 2, 4, 8]) : okW x = true := by simp at h; simp [okW]; omega
end Oct

theorem sl4 (w : World) (k : Nat) (hk : k = w.heap.size) (T : TypeId) : Sl (w.alloc (.cells #[.int .i64 1, .int .i64 2, .int .i64 4, .int .i64 8] T)) 1 (.slice (some ⟨k, 0, none⟩) 4 4) 4 ([1, 2, 4, 8].map (.int .i64)) := by
  subst hk
  exact Sl.of_own (World.ownsRow_lit w #[.int .i64 1, .int .i64 2, .int .i64 4, .int .i64 8] 4 (size := 1) (e := T) (Nat.le_refl _) (by decide) rfl)

theorem is_c (n : Int) (w : World) : Calls Try.prog 36 #[.int .i64 n] w (Ret (.bool (Oct.okW n)) w) := by
  go_enter Try.func36, Try.ntmps36
  go_wp2_with (first
    | (go_at_call 39; refine (widths_c _).mono ?_; rintro e w1 ⟨rfl, hb⟩)
    | (go_at_call 40; refine (containsI_c [1, 2, 4, 8] _ 4 _ _ (sl4 _ _ rfl _) (by decide)).mono ?_; rintro e w2 ⟨rfl, rfl⟩))
  go_ret
  exact ⟨retB (by simp [Oct.okW, Bool.or_assoc]), below_up hb (below_alloc _ _)⟩

theorem widthR_c (n : Int) (w : World) : Calls Try.prog 34 #[.int .i64 n] w fun e w' => e = .returned (.bool (Oct.okW n)) ∧ w = w' := by
  go_enter Try.func34, Try.ntmps34
  go_wp2
  all_goals
    go_ret
    exact ⟨retB (by unfold Oct.okW; simp [*]), rfl⟩

namespace Oct
/-- Has n no more than k bytes? -/
def fitsB (k : Int) (n : Int) : Bool := decide (n < 256 ^ k.toNat)
def leastF (n : Int) : Int := if n < 256 then 1 else if n < 65536 then 2 else if n < 4294967296 then 4 else 8
theorem leastF_ok (n : Int) : okW (leastF n) = true := by unfold leastF; split; · rfl
                                                          split; · rfl
                                                          split <;> rfl
def firstF (p : Int → Bool) (l : List Int) : Int := (l.find? p).getD 0
theorem least_find {n : Int} (h1 : n ≤ 18446744073709551615) : firstF (fun k => fitsB k n) [1, 2, 4, 8] = leastF n := by
  unfold firstF leastF fitsB
  have e1 : (256 : Int) ^ (1 : Int).toNat = 256 := by decide
  have e2 : (256 : Int) ^ (2 : Int).toNat = 65536 := by decide
  have e4 : (256 : Int) ^ (4 : Int).toNat = 4294967296 := by decide
  have e8 : (256 : Int) ^ (8 : Int).toNat = 18446744073709551616 := by decide
  simp only [List.find?, e1, e2, e4, e8]
  by_cases h : n < 256
  · simp [h]
  · by_cases h2 : n < 65536
    · simp [h, h2]
    · by_cases h3 : n < 4294967296
      · simp [h, h2, h3]
      · have h4 : n < 18446744073709551616 := by omega
        simp [h, h2, h3, h4]
end Oct
theorem fits_c (k n : Int) (w : World) (hk : Oct.okW k = true) (h0 : 0 ≤ n) (h1 : n ≤ 18446744073709551615) : Calls Try.prog 37 #[.agg #[.int .i64 k, .int .u64 n]] w (Ret (.bool (Oct.fitsB k n)) w) := by
  rcases Oct.okW_cases hk with rfl | rfl | rfl | rfl
  all_goals
    clear hk
    go_enter Try.func37, Try.ntmps37
    go_wp2
    all_goals
      go_ret
      refine ⟨retB ?_, below_alloc _ _⟩
      rw [Bool.eq_iff_iff]
      simp [Oct.fitsB]
      omega

theorem idx_find {p : Int → Bool} {l : List Int} : (idx p l = -1 ∧ Oct.firstF p l = 0) ∨ ∃ k : Nat, ∃ h : k < l.length, idx p l = k ∧ Oct.firstF p l = l[k] := by
  cases h : l.findIdx? p with
  | none =>
    left
    refine ⟨by simp [idx, h], ?_⟩
    rw [List.findIdx?_eq_none_iff] at h
    have : l.find? p = none := List.find?_eq_none.2 (by intro x hx; simp [h x hx])
    simp [Oct.firstF, this]
  | some i =>
    right
    have h' := h
    rw [List.findIdx?_eq_some_iff_getElem] at h
    obtain ⟨hi, hp, hj⟩ := h
    refine ⟨i, hi, by simp [idx, h'], ?_⟩
    have : l.find? p = some l[i] := by
      rw [List.find?_eq_some_iff_getElem]
      exact ⟨hp, i, hi, rfl, fun j hji => by have := hj j hji; simpa using this⟩
    simp [Oct.firstF, this]

end Go.Proofs.Ytinohligpncpiaa
