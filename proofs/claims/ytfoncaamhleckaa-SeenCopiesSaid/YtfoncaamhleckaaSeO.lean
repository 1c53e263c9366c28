/-
  Calls out of an argument's leaves.
-/
import Derived.Test.YtfoncaamhleckaaSeP
import Derived.Test.YtfoncaamhleckaaOpen
import Derived.Test.YtfoncaamhleckaaRecOpen
namespace Go.Proofs.Ytfoncaamhleckaa
open Go.RowKit Go.Maps Trc Sn
set_option linter.unusedSimpArgs false
set_option linter.unusedVariables false
abbrev seLs : List TypeId := [3, 32, 32, 23, 32, 4, 5, 23]
theorem open_acs {H : Type} {enc : TypeId × Value → H} {w : World} {base : Nat} {spare : Nat → Bool} {held : Bool} {v : Value} {n : Nat} {vs : List Value} (hs : Sl w 8 v n vs)
    (hl : ∀ i, i < n → ∀ (j : Nat) (T : TypeId), seLs[j]? = some T → ∃ c, vs[i * 8 + j]? = some c ∧ Leaf enc Try.prog w base spare held T c) : ∃ l : List Ac, vs = l.flatMap acC ∧ ∀ e ∈ l, e.s.wf := by
  refine recs_of (cells := acC) (good := fun e => e.s.wf) (fun _ => rfl) n vs hs.1 (fun i hi => ?_)
  obtain ⟨c0, e0, L0⟩ := hl i hi 0 _ rfl
  obtain ⟨x0, rfl, w0⟩ := Leaf.int Try.underlying3 L0
  obtain ⟨c1, e1, L1⟩ := hl i hi 1 _ rfl
  obtain ⟨x1, rfl, w1⟩ := Leaf.int Try.underlying32 L1
  obtain ⟨c2, e2, L2⟩ := hl i hi 2 _ rfl
  obtain ⟨x2, rfl, w2⟩ := Leaf.int Try.underlying32 L2
  obtain ⟨c3, e3, L3⟩ := hl i hi 3 _ rfl
  obtain ⟨x3, rfl, w3⟩ := Leaf.int Try.underlying23 L3
  obtain ⟨c4, e4, L4⟩ := hl i hi 4 _ rfl
  obtain ⟨x4, rfl, w4⟩ := Leaf.int Try.underlying32 L4
  obtain ⟨c5, e5, L5⟩ := hl i hi 5 _ rfl
  obtain ⟨x5, rfl⟩ := Leaf.bool Try.underlying4 L5
  obtain ⟨c6, e6, L6⟩ := hl i hi 6 _ rfl
  obtain ⟨x6, rfl, w6⟩ := Leaf.int Try.underlying5 L6
  obtain ⟨c7, e7, L7⟩ := hl i hi 7 _ rfl
  obtain ⟨x7, rfl, w7⟩ := Leaf.int Try.underlying23 L7
  refine ⟨⟨x0, ⟨⟨x1, x2, x3, x4⟩, x5, x6⟩, x7⟩, ⟨⟨w1, w2, w3, w4⟩, w6⟩, fun j hj => ?_⟩
  match j with
  | 0 => exact e0
  | 1 => exact e1
  | 2 => exact e2
  | 3 => exact e3
  | 4 => exact e4
  | 5 => exact e5
  | 6 => exact e6
  | 7 => exact e7
  | j + 8 => exact absurd hj (by omega)
end Go.Proofs.Ytfoncaamhleckaa
