/-
  Contracts of clock's functions over lists of numbers.
-/
import Derived.Test.YtgbpdchdcbnoaaaClockA
import Derived.Test.YtgbpdchdcbnoaaaSlice
namespace Go.Proofs.Ytgbpdchdcbnoaaa
open Go.RowKit

namespace Clk
def topTo (l : List Int) (k : Nat) : List Int := (l.take k).map topF ++ l.drop k
theorem topTo_zero (l : List Int) : topTo l 0 = l := by simp [topTo]
theorem topTo_all (l : List Int) (k : Nat) (h : l.length ≤ k) : topTo l k = l.map topF := by simp [topTo, List.take_of_length_le h, List.drop_eq_nil_of_le h]
theorem topTo_len (l : List Int) (k : Nat) : (topTo l k).length = l.length := by simp [topTo]; omega
theorem topTo_get (l : List Int) (k : Nat) (h : k < l.length) : (topTo l k)[k]? = l[k]? := by
  simp [topTo, List.getElem?_append, List.length_take, Nat.min_eq_left (Nat.le_of_lt h)]
theorem topTo_set (l : List Int) (k : Nat) (h : k < l.length) : (topTo l k).set k (topF l[k]) = topTo l (k + 1) := by
  apply List.ext_getElem?
  intro j
  simp only [topTo, List.getElem?_set, List.getElem?_append, List.length_map, List.length_take, List.getElem?_map, List.getElem?_take, List.getElem?_drop, List.length_append, List.length_drop]
  rcases Nat.lt_trichotomy j k with hj | rfl | hj
  · rw [if_neg (by omega), if_pos (by omega), if_pos (by omega), if_pos (by omega), if_pos (by omega)]
  · rw [if_pos rfl, if_pos (by omega), if_pos (by omega), if_pos (by omega), List.getElem?_eq_getElem h]; rfl
  · rw [if_neg (by omega), if_neg (by omega), if_neg (by omega)]; congr 1; omega
end Clk

namespace Clk
/-- The place of the first that is such; below 0: none is. -/
def idx {α : Type} (p : α → Bool) (l : List α) : Int := match l.findIdx? p with | some i => i | none => -1
theorem idx_some {α : Type} {p : α → Bool} {l : List α} {k : Nat} (hk : k < l.length) (h : ∀ j, j < k → ∀ hj : j < l.length, p l[j] = false) (hp : p l[k] = true) : idx p l = k := by
  have : l.findIdx? p = some k := by
    rw [List.findIdx?_eq_some_iff_getElem]
    exact ⟨hk, hp, fun j hj => by simp [h j hj (by omega)]⟩
  simp [idx, this]
theorem idx_none {α : Type} {p : α → Bool} {l : List α} (h : ∀ j, ∀ hj : j < l.length, p l[j] = false) : idx p l = -1 := by
  have : l.findIdx? p = none := by
    rw [List.findIdx?_eq_none_iff]
    intro x hx
    obtain ⟨j, hj, rfl⟩ := List.getElem_of_mem hx
    exact h j hj
  simp [idx, this]
theorem idx_any {α : Type} (p : α → Bool) (l : List α) : decide (0 ≤ idx p l) = l.any p := by
  unfold idx
  cases h : l.findIdx? p with
  | none =>
    rw [List.findIdx?_eq_none_iff] at h
    have : l.any p = false := by rw [List.any_eq_false]; intro x hx; simp [h x hx]
    rw [this]; rfl
  | some i =>
    have : l.any p = true := by
      rw [List.findIdx?_eq_some_iff_getElem] at h
      obtain ⟨hi, hp, _⟩ := h
      exact List.any_eq_true.2 ⟨l[i], List.getElem_mem hi, hp⟩
    rw [this]; simp
end Clk

end Go.Proofs.Ytgbpdchdcbnoaaa
