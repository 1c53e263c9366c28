/-
  ClockSorted: whatever the input.
-/
import Derived.Test.YtnccbeiaohmnpaaClockSorted
import Derived.Test.YtnccbeiaohmnpaaRecOpen
namespace Go.Proofs.Ytnccbeiaohmnpaa
open Go.RowKit Srt
set_option linter.unusedVariables false
abbrev spLs : List TypeId := [22, 22]
theorem open_sps {H : Type} {enc : TypeId × Value → H} {w : World} {base : Nat} {spare : Nat → Bool} {held : Bool} {v : Value} {n : Nat} {vs : List Value} (hs : Sl w 2 v n vs)
    (hl : ∀ i, i < n → ∀ (j : Nat) (T : TypeId), spLs[j]? = some T → ∃ c, vs[i * 2 + j]? = some c ∧ Leaf enc Try.prog w base spare held T c) : ∃ l : List (Int × Int), vs = l.flatMap spC ∧ ∀ e ∈ l, True := by
  refine recs_of (cells := spC) (fun _ => rfl) n vs hs.1 (fun i hi => ?_)
  obtain ⟨c0, e0, L0⟩ := hl i hi 0 _ rfl
  obtain ⟨x0, rfl, w0⟩ := Leaf.int Try.underlying22 L0
  obtain ⟨c1, e1, L1⟩ := hl i hi 1 _ rfl
  obtain ⟨x1, rfl, w1⟩ := Leaf.int Try.underlying22 L1
  refine ⟨(x0, x1), trivial, fun j hj => ?_⟩
  match j with
  | 0 => exact e0
  | 1 => exact e1
  | j + 2 => exact absurd hj (by omega)
theorem clockSorted_law {H : Type} {enc : TypeId × Value → H} {base : Nat} {spare : Nat → Bool} {held : Bool} {v : Value} {n : Nat} {vs : List Value} (many : Int) (w : World) (hs : Sl w 2 v n vs)
    (hl : ∀ i, i < n → ∀ (j : Nat) (T : TypeId), spLs[j]? = some T → ∃ c, vs[i * 2 + j]? = some c ∧ Leaf enc Try.prog w base spare held T c) :
    Calls Try.prog 6 #[v, .int .i64 many] w (Ret (.bool true) w) := by
  by_cases hn : 40 < n
  · exact clockSorted_big v n many w vs hs hn
  · obtain ⟨l, rfl, _⟩ := open_sps hs hl
    exact clockSorted_c l v n many w hs (by omega)
end Go.Proofs.Ytnccbeiaohmnpaa
