/-
  SeenPlays: whatever the input.
-/
import Derived.Test.YtfoncaamhleckaaSeenPlays
import Derived.Test.YtfoncaamhleckaaSeO
namespace Go.Proofs.Ytfoncaamhleckaa
open Go.RowKit Sn
set_option linter.unusedVariables false
theorem seenPlaysL {H : Type} {enc : TypeId × Value → H} {base : Nat} {spare : Nat → Bool} {held : Bool} {v : Value} {n : Nat} {vs : List Value} (most : Int) (w : World) (hs : Sl w 8 v n vs)
    (hl : ∀ i, i < n → ∀ (j : Nat) (T : TypeId), seLs[j]? = some T → ∃ c, vs[i * 8 + j]? = some c ∧ Leaf enc Try.prog w base spare held T c) :
    Calls Try.prog 4 #[.int .i64 most, v] w (Ret (.bool true) w) := by
  obtain ⟨l, rfl, hwf⟩ := open_acs hs hl
  exact seenPlays_law l v n most w hs hwf
end Go.Proofs.Ytfoncaamhleckaa
