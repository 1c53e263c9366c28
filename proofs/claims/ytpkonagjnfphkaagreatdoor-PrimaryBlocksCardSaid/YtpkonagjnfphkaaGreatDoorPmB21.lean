/-
  TraceF: several texts in one (bundle.py).
-/
import Derived.Test.YtpkonagjnfphkaaGreatDoorPmB20
namespace Go.Proofs.YtpkonagjnfphkaaGreatDoor
open Go.RowKit Trc
set_option linter.unusedSimpArgs false
set_option linter.unusedVariables false

namespace Trc
def pairB (x y : Ev) : Bool := saysB x && (saysB y && (decide (x.name = y.name) && decide (0 < x.name.node)))
theorem once_true {l : List Ev} {x : Ev} (h0 : 0 ≤ x.name.node) (h : ∀ y ∈ l, pairB x y = false) : onceB l x = true := by
  unfold onceB
  cases hs : saysB x with
  | false => rfl
  | true =>
    by_cases hz : x.name.node = 0
    · simp [hz]
    · have : l.any (sameB x) = false := by
        rw [List.any_eq_false]
        intro y hy
        have := h y hy
        unfold pairB at this
        unfold sameB
        rw [hs, Bool.true_and] at this
        cases hy : saysB y with
        | false => simp
        | true =>
          rw [hy, Bool.true_and, decide_eq_true (show 0 < x.name.node by omega), Bool.and_true, decide_eq_false_iff_not] at this
          simp
          exact fun e => this e.symm
      simp [this]
theorem once_false {l : List Ev} {x y : Ev} (hy : y ∈ l) (h : pairB x y = true) : onceB l x = false := by
  unfold pairB at h
  simp only [Bool.and_eq_true, decide_eq_true_eq] at h
  obtain ⟨h1, h2, h3, h4⟩ := h
  have h5 : l.any (sameB x) = true := List.any_eq_true.2 ⟨y, hy, by unfold sameB; rw [h2, Bool.true_and]; exact decide_eq_true h3.symm⟩
  unfold onceB
  rw [h1, h5]
  simp
  omega
theorem sound_true {l : List Ev} {k : Nat} {x : Ev} (h1 : aloneB x = true) (h2 : risesB (l.take k) x = true) (h3 : onceB (l.take k) x = true) : soundB (l.take k) x = true := by
  unfold soundB; rw [h1, h2, h3]; rfl
theorem nm_ne {a b : Nm} (h : a ≠ b) : a.node ≠ b.node ∨ (a.node = b.node ∧ a.service ≠ b.service) ∨ (a.node = b.node ∧ a.service = b.service ∧ a.time ≠ b.time) ∨ (a.node = b.node ∧ a.service = b.service ∧ a.time = b.time ∧ a.seq ≠ b.seq) := by
  by_cases h1 : a.node = b.node
  · by_cases h2 : a.service = b.service
    · by_cases h3 : a.time = b.time
      · exact .inr (.inr (.inr ⟨h1, h2, h3, fun h4 => h (Nm.ext h1 h2 h3 h4)⟩))
      · exact .inr (.inr (.inl ⟨h1, h2, h3⟩))
    · exact .inr (.inl ⟨h1, h2⟩)
  · exact .inl h1
theorem sound_false {l : List Ev} {k : Nat} {x : Ev} (h : aloneB x = false ∨ risesB (l.take k) x = false ∨ onceB (l.take k) x = false) : soundB (l.take k) x = false := by
  unfold soundB
  rcases h with h | h | h <;> simp [h]
end Trc
abbrev nmC (x : Nm) : List Value := [.int .u32 x.node, .int .u32 x.service, .int .u64 x.time, .int .u32 x.seq]
theorem evC_name (e : Ev) : ∀ j, j < (nmC e.name).length → (nmC e.name)[j]? = (evC e)[5 + j]? := fun j hj => by
  match j with
  | 0 => rfl
  | 1 => rfl
  | 2 => rfl
  | 3 => rfl

end Go.Proofs.YtpkonagjnfphkaaGreatDoor
