/-
  A slice of records, opened: the list of its records.
-/
import Derived.Test.YtfoncaamhleckaaRec
import Derived.Test.YtfoncaamhleckaaOpen
namespace Go.Proofs.Ytfoncaamhleckaa
open Go.RowKit

/-- Cells that are, place by place, those of some record, are those of a list of records. -/
theorem recs_of {α : Type} {cells : α → List Value} {good : α → Prop} {sz : Nat} (hsz : ∀ x, (cells x).length = sz) : ∀ (n : Nat) (vs : List Value), vs.length = n * sz →
    (∀ i, i < n → ∃ x, good x ∧ ∀ j, j < sz → vs[i * sz + j]? = (cells x)[j]?) → ∃ l : List α, vs = l.flatMap cells ∧ ∀ x ∈ l, good x
  | 0, vs, hl, _ => ⟨[], by simpa using hl, fun x hx => by cases hx⟩
  | n + 1, vs, hl, h => by
    obtain ⟨x, hx, hj⟩ := h 0 (by omega)
    have hln : sz ≤ vs.length := by rw [hl, Nat.add_mul]; omega
    obtain ⟨l, hl1, hl2⟩ := recs_of (good := good) hsz n (vs.drop sz) (by rw [List.length_drop, hl, Nat.add_mul]; omega) (fun i hi => by
      obtain ⟨y, hy, hk⟩ := h (i + 1) (by omega)
      refine ⟨y, hy, fun j hj => ?_⟩
      rw [← hk j hj, List.getElem?_drop, Nat.add_mul]
      congr 1; omega)
    refine ⟨x :: l, ?_, fun y hy => ?_⟩
    · have ht : vs.take sz = cells x := by
        refine List.ext_getElem? fun j => ?_
        rcases Nat.lt_or_ge j sz with h1 | h1
        · have := hj j h1
          rw [Nat.zero_mul, Nat.zero_add] at this
          rw [List.getElem?_take, if_pos h1, this]
        · rw [List.getElem?_take, if_neg (by omega), List.getElem?_eq_none (by rw [hsz]; omega)]
      rw [List.flatMap_cons, ← hl1, ← ht, List.take_append_drop]
    · rcases List.mem_cons.1 hy with rfl | hy
      · exact hx
      · exact hl2 y hy
end Go.Proofs.Ytfoncaamhleckaa
