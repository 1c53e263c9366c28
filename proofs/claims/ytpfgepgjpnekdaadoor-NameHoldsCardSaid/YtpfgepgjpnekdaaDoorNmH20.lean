/-
  OctetA: several texts in one (bundle.py).
-/
import Derived.Test.YtpfgepgjpnekdaaDoorNmH05
namespace Go.Proofs.YtpfgepgjpnekdaaDoor
open Go.RowKit
set_option linter.unusedSimpArgs false
set_option linter.unusedVariables false

namespace Oct
/-- Is it a width? -/
def okW (n : Int) : Bool := n == 1 || n == 2 || n == 4 || n == 8
theorem okW_any (n : Int) : ([1, 2, 4, 8].any fun y => n == y) = okW n := by simp [okW, Bool.or_assoc]
theorem okW_cases {n : Int} (h : okW n = true) : n = 1 ∨ n = 2 ∨ n = 4 ∨ n = 8 := by simpa [okW, or_assoc] using h
theorem mem4 {x : Int} (h : x ∈ [(1 : Int), 2, 4, 8]) : okW x = true := by simp at h; simp [okW]; omega
end Oct

theorem sl4 (w : World) (k : Nat) (hk : k = w.heap.size) (T : TypeId) : Sl (w.alloc (.cells #[.int .i64 1, .int .i64 2, .int .i64 4, .int .i64 8] T)) 1 (.slice (some ⟨k, 0, none⟩) 4 4) 4 ([1, 2, 4, 8].map (.int .i64)) := by
  subst hk
  exact Sl.of_own (World.ownsRow_lit w #[.int .i64 1, .int .i64 2, .int .i64 4, .int .i64 8] 4 (size := 1) (e := T) (Nat.le_refl _) (by decide) rfl)

namespace Oct
/-- Has n no more than k bytes? -/
def fitsB (k : Int) (n : Int) : Bool := decide (n < 256 ^ k.toNat)
def leastF (n : Int) : Int := if n < 256 then 1 else if n < 65536 then 2 else if n < 4294967296 then 4 else 8
theorem leastF_ok (n : Int) : okW (leastF n) = true := by unfold leastF; split; · rfl
                                                          split; · rfl
                                                          split <;> rfl
def firstF (p : Int → Bool) (l : List Int) : Int := (l.find? p).getD 0
theorem least_find {n : Int} (h1 : n ≤ 18446744073709551615) : firstF (fun k => fitsB k n) [1, 2, 4, 8] = leastF n := by
  unfold firstF leastF fitsB
  have e1 : (256 : Int) ^ (1 : Int).toNat = 256 := by decide
  have e2 : (256 : Int) ^ (2 : Int).toNat = 65536 := by decide
  have e4 : (256 : Int) ^ (4 : Int).toNat = 4294967296 := by decide
  have e8 : (256 : Int) ^ (8 : Int).toNat = 18446744073709551616 := by decide
  simp only [List.find?, e1, e2, e4, e8]
  by_cases h : n < 256
  · simp [h]
  · by_cases h2 : n < 65536
    · simp [h, h2]
    · by_cases h3 : n < 4294967296
      · simp [h, h2, h3]
      · have h4 : n < 18446744073709551616 := by omega
        simp [h, h2, h3, h4]
end Oct
theorem idx_find {p : Int → Bool} {l : List Int} : (idx p l = -1 ∧ Oct.firstF p l = 0) ∨ ∃ k : Nat, ∃ h : k < l.length, idx p l = k ∧ Oct.firstF p l = l[k] := by
  cases h : l.findIdx? p with
  | none =>
    left
    refine ⟨by simp [idx, h], ?_⟩
    rw [List.findIdx?_eq_none_iff] at h
    have : l.find? p = none := List.find?_eq_none.2 (by intro x hx; simp [h x hx])
    simp [Oct.firstF, this]
  | some i =>
    right
    have h' := h
    rw [List.findIdx?_eq_some_iff_getElem] at h
    obtain ⟨hi, hp, hj⟩ := h
    refine ⟨i, hi, by simp [idx, h'], ?_⟩
    have : l.find? p = some l[i] := by
      rw [List.find?_eq_some_iff_getElem]
      exact ⟨hp, i, hi, rfl, fun j hji => by have := hj j hji; simpa using this⟩
    simp [Oct.firstF, this]

end Go.Proofs.YtpfgepgjpnekdaaDoor
