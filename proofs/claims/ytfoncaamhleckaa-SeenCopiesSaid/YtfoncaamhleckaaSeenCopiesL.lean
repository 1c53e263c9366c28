/-
  SeenCopies: whatever the input.
-/
import Derived.Test.YtfoncaamhleckaaSeenCopies
import Derived.Test.YtfoncaamhleckaaSeO
namespace Go.Proofs.Ytfoncaamhleckaa
open Go.RowKit Sn
set_option linter.unusedVariables false
theorem seenCopiesL {H : Type} {enc : TypeId × Value → H} {base : Nat} {spare : Nat → Bool} {held : Bool} {v : Value} {n : Nat} {vs : List Value} (most : Int) (x0 x1 : Ac) (h0 : x0.s.wf) (h1 : x1.s.wf) (w : World) (hs : Sl w 8 v n vs)
    (hl : ∀ i, i < n → ∀ (j : Nat) (T : TypeId), seLs[j]? = some T → ∃ c, vs[i * 8 + j]? = some c ∧ Leaf enc Try.prog w base spare held T c) :
    Calls Try.prog 5 #[.int .i64 most, v, .agg (twC x0 x1).toArray] w (Ret (.bool true) w) := by
  obtain ⟨l, rfl, hwf⟩ := open_acs hs hl
  exact seenCopies_law l x0 x1 v n most w hs hwf h0 h1
end Go.Proofs.Ytfoncaamhleckaa
