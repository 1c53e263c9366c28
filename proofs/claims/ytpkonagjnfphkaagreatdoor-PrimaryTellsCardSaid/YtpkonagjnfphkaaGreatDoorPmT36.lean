/-
  NStabE, NmOrd: several texts in one (bundle.py).
-/
import Derived.Test.YtpkonagjnfphkaaGreatDoorPmT35
import Derived.Test.YtpkonagjnfphkaaGreatDoorPmT07
import Derived.Test.YtpkonagjnfphkaaGreatDoorPmT08
namespace Go.Proofs.YtpkonagjnfphkaaGreatDoor
open Go.RowKit Srt
set_option linter.unusedSimpArgs false
set_option linter.unusedVariables false

/-- What a comparison says. -/
def Srt.ltc {α : Type} (cf : α → α → Int) (x y : α) : Bool := decide (cf x y < 0)
section
variable {α : Type} {cells : α → List Value} {cf : α → α → Int}
theorem ins_step (hT : TO (ltc cf)) {S S1 S2 R' X : List α} {x : α} (hSS : S1 ++ S2 = S) (hp : (S ++ x :: R').Perm X) (hS : Sorted (ltc cf) S) (h2 : ∀ y, S2.head? = some y → ltc cf y x = false) (h1 : ∀ z, S1.getLast? = some z → ltc cf x z = false) :
    (S1 ++ x :: S2 ++ R').Perm X ∧ Sorted (ltc cf) (S1 ++ x :: S2) := by
  subst hSS
  refine ⟨List.Perm.trans ?_ hp, ins_sorted hT hS h1 h2⟩
  rw [List.append_assoc, List.append_assoc, List.cons_append]
  exact List.Perm.append_left S1 List.perm_middle.symm
theorem swap_nb (A B : List α) (x y : α) : ((A ++ x :: y :: B).set A.length y).set (A.length + 1) x = A ++ y :: x :: B := by
  rw [List.set_append_right _ _ (Nat.le_refl _), Nat.sub_self, List.set_append_right _ _ (by simp)]
  rw [show A.length + 1 - A.length = 1 by omega]; rfl
theorem swap_bn (A B : List α) (x y : α) : ((A ++ x :: y :: B).set (A.length + 1) x).set A.length y = A ++ y :: x :: B := by
  rw [List.set_append_right _ _ (by simp), show A.length + 1 - A.length = 1 by omega, List.set_append_right _ _ (Nat.le_refl _), Nat.sub_self]; rfl
theorem nb_get1 (A B : List α) (x y : α) : (A ++ x :: y :: B)[A.length]? = some x := by simp
theorem nb_get2 (A B : List α) (x y : α) : (A ++ x :: y :: B)[A.length + 1]? = some y := by
  rw [List.getElem?_append_right (by simp), show A.length + 1 - A.length = 1 by omega]; rfl
end
end Go.Proofs.YtpkonagjnfphkaaGreatDoor

namespace Go.Proofs.YtpkonagjnfphkaaGreatDoor
open Go.RowKit Srt Trc
set_option linter.unusedSimpArgs false
set_option linter.unusedVariables false

/-- Three ways. -/
def cmp3 (a b : Int) : Int := if a < b then -1 else if b < a then 1 else 0
/-- The first that is not 0. -/
def cmpL : List Int → Int
  | [] => 0
  | c :: r => if c = 0 then cmpL r else c
namespace Trc
def nmPs (x : Nm) : List Int := [x.node, x.service, x.time, x.seq]
def nmCs (x y : Nm) : List Int := [cmp3 x.node y.node, cmp3 x.service y.service, cmp3 x.time y.time, cmp3 x.seq y.seq]
def nmCmp (x y : Nm) : Int := cmpL (nmCs x y)
end Trc
theorem cmpL_at : ∀ (l : List Int) (k : Nat) (hk : k < l.length), (∀ j, j < k → l.getD j 0 = 0) → l[k] ≠ 0 → cmpL l = l[k]
  | c :: r, 0, _, _, h => by simp only [List.getElem_cons_zero] at h ⊢; exact if_neg h
  | c :: r, k + 1, hk, h0, h => by
    have h1 := h0 0 (by omega)
    simp only [List.getD_cons_zero] at h1
    subst h1
    simp only [List.getElem_cons_succ] at h ⊢
    show cmpL r = _
    exact cmpL_at r k (by simpa using hk) (fun j hj => by have := h0 (j + 1) (by omega); simpa using this) h
theorem cmpL_zero : ∀ (l : List Int), (∀ j, j < l.length → l.getD j 0 = 0) → cmpL l = 0
  | [], _ => rfl
  | c :: r, h => by
    have h1 := h 0 (by simp)
    simp only [List.getD_cons_zero] at h1
    subst h1
    show cmpL r = 0
    exact cmpL_zero r (fun j hj => by have := h (j + 1) (by simpa using hj); simpa using this)
abbrev WN : Type := {x : Nm // x.wf}
abbrev wnC (x : WN) : List Value := nmC x.1
def wnCmp (x y : WN) : Int := nmCmp x.1 y.1
theorem wnCmp_lt (x y : WN) : ltc wnCmp x y = decide (x.1.node < y.1.node ∨ x.1.node = y.1.node ∧ (x.1.service < y.1.service ∨ x.1.service = y.1.service ∧ (x.1.time < y.1.time ∨ x.1.time = y.1.time ∧ x.1.seq < y.1.seq))) := by
  unfold ltc wnCmp nmCmp nmCs cmpL cmpL cmpL cmpL cmpL cmp3
  refine decide_eq_decide.2 ?_
  repeat' split
  all_goals omega
theorem wnTO : TO (ltc wnCmp) := by
  refine ⟨fun x y h => ?_, fun x y z h1 h2 => ?_, fun x y h1 h2 => ?_⟩
  · rw [wnCmp_lt] at h ⊢
    have := of_decide_eq_true h
    exact decide_eq_false (by omega)
  · rw [wnCmp_lt] at h1 h2 ⊢
    have := of_decide_eq_false h1
    have := of_decide_eq_false h2
    exact decide_eq_false (by omega)
  · rw [wnCmp_lt] at h1 h2
    have := of_decide_eq_false h1
    have := of_decide_eq_false h2
    exact Subtype.ext (Nm.ext (by omega) (by omega) (by omega) (by omega))
theorem nm_bounds {x : Nm} (h : x.wf) : (0 ≤ x.node ∧ x.node ≤ 4294967295) ∧ (0 ≤ x.service ∧ x.service ≤ 4294967295) ∧ (0 ≤ x.time ∧ x.time ≤ 18446744073709551615) ∧ (0 ≤ x.seq ∧ x.seq ≤ 4294967295) := by
  obtain ⟨h1, h2, h3, h4⟩ := h
  simp [Lit.wf, IntKind.min, IntKind.max, IntKind.signed, IntKind.bits] at h1 h2 h3 h4
  omega
theorem nmCs_at (x y : Nm) : ∀ k, k < 4 → cmp3 ((nmPs x).getD k 0) ((nmPs y).getD k 0) = (nmCs x y).getD k 0
  | 0, _ => rfl
  | 1, _ => rfl
  | 2, _ => rfl
  | 3, _ => rfl
  | k + 4, h => by omega
end Go.Proofs.YtpkonagjnfphkaaGreatDoor
