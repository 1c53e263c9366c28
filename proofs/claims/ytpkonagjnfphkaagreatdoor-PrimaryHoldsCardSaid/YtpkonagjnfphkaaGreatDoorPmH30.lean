/-
  NStabE: several texts in one (bundle.py).
-/
import Derived.Test.YtpkonagjnfphkaaGreatDoorPmH29
namespace Go.Proofs.YtpkonagjnfphkaaGreatDoor
open Go.RowKit Srt
set_option linter.unusedSimpArgs false
set_option linter.unusedVariables false

/-- What a comparison says. -/
def Srt.ltc {α : Type} (cf : α → α → Int) (x y : α) : Bool := decide (cf x y < 0)
section
variable {α : Type} {cells : α → List Value} {cf : α → α → Int}
theorem ins_step (hT : TO (ltc cf)) {S S1 S2 R' X : List α} {x : α} (hSS : S1 ++ S2 = S) (hp : (S ++ x :: R').Perm X) (hS : Sorted (ltc cf) S) (h2 : ∀ y, S2.head? = some y → ltc cf y x = false) (h1 : ∀ z, S1.getLast? = some z → ltc cf x z = false) :
    (S1 ++ x :: S2 ++ R').Perm X ∧ Sorted (ltc cf) (S1 ++ x :: S2) := by
  subst hSS
  refine ⟨List.Perm.trans ?_ hp, ins_sorted hT hS h1 h2⟩
  rw [List.append_assoc, List.append_assoc, List.cons_append]
  exact List.Perm.append_left S1 List.perm_middle.symm
theorem swap_nb (A B : List α) (x y : α) : ((A ++ x :: y :: B).set A.length y).set (A.length + 1) x = A ++ y :: x :: B := by
  rw [List.set_append_right _ _ (Nat.le_refl _), Nat.sub_self, List.set_append_right _ _ (by simp)]
  rw [show A.length + 1 - A.length = 1 by omega]; rfl
theorem swap_bn (A B : List α) (x y : α) : ((A ++ x :: y :: B).set (A.length + 1) x).set A.length y = A ++ y :: x :: B := by
  rw [List.set_append_right _ _ (by simp), show A.length + 1 - A.length = 1 by omega, List.set_append_right _ _ (Nat.le_refl _), Nat.sub_self]; rfl
theorem nb_get1 (A B : List α) (x y : α) : (A ++ x :: y :: B)[A.length]? = some x := by simp
theorem nb_get2 (A B : List α) (x y : α) : (A ++ x :: y :: B)[A.length + 1]? = some y := by
  rw [List.getElem?_append_right (by simp), show A.length + 1 - A.length = 1 by omega]; rfl
end
end Go.Proofs.YtpkonagjnfphkaaGreatDoor
