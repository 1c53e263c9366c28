/-
  TraceD, TraceE: several texts in one (bundle.py).
-/
import Derived.Test.YtpfgepgjpnekdaaDoorNmI17
namespace Go.Proofs.YtpfgepgjpnekdaaDoor
open Go.RowKit Trc
set_option linter.unusedSimpArgs false
set_option linter.unusedVariables false

abbrev fnV (f : FuncId) : Value := .func (.func f) #[] #[]
abbrev fnC (f : FuncId) : List Value := [fnV f]

namespace Trc
def soundB (l : List Ev) (e : Ev) : Bool := aloneB e && (risesB l e && onceB l e)
/-- The first that is not sound beside those ahead. -/
def badAt (l : List Ev) : Nat → Nat → Option Nat
  | _, 0 => none
  | k, n + 1 => match l[k]? with
    | none => none
    | some e => if soundB (l.take k) e then badAt l (k + 1) n else some k
def wrongAt (l : List Ev) : Option Nat := badAt l 0 l.length
def checkAt (l : List Ev) : Int := if 4096 < l.length then 0 else match wrongAt l with | none => 0 | some k => k
def checkE (l : List Ev) : Int := if 4096 < l.length then 3 else match wrongAt l with | none => 0 | some _ => 360
theorem badAt_some {l : List Ev} : ∀ (n k : Nat) (j : Nat) (hj : j < l.length), k ≤ j → j < k + n → (∀ i, k ≤ i → i < j → ∀ hi : i < l.length, soundB (l.take i) l[i] = true) → soundB (l.take j) l[j] = false → badAt l k n = some j
  | 0, k, j, _, h1, h2, _, _ => by omega
  | n + 1, k, j, hj, h1, h2, h3, h4 => by
    unfold badAt
    rw [List.getElem?_eq_getElem (by omega)]
    by_cases h : k = j
    · subst h
      simp [h4]
    · simp [h3 k (Nat.le_refl _) (by omega) (by omega)]
      exact badAt_some n (k + 1) j hj (by omega) (by omega) (fun i hi => h3 i (by omega)) h4
theorem badAt_none {l : List Ev} : ∀ (n k : Nat), (∀ i, k ≤ i → ∀ hi : i < l.length, soundB (l.take i) l[i] = true) → badAt l k n = none
  | 0, k, _ => rfl
  | n + 1, k, h => by
    unfold badAt
    by_cases hk : k < l.length
    · rw [List.getElem?_eq_getElem hk]
      simp [h k (Nat.le_refl _) hk]
      exact badAt_none n (k + 1) (fun i hi => h i (by omega))
    · rw [List.getElem?_eq_none (by omega)]
end Trc

theorem sl3f (w : World) (k : Nat) (hk : k = w.heap.size) (T : TypeId) (f g h : FuncId) : Sl (w.alloc (.cells #[fnV f, fnV g, fnV h] T)) 1 (.slice (some ⟨k, 0, none⟩) 3 3) 3 ([f, g, h].flatMap fnC) := by
  subst hk
  refine ⟨by simp, .inr ⟨w.heap.size, 0, 3, rfl, by decide, by decide, fun j u hj => ?_⟩⟩
  have : (w.alloc (.cells #[fnV f, fnV g, fnV h] T)).heap[w.heap.size]? = some (.cells #[fnV f, fnV g, fnV h] T) := heap_alloc_new w _
  simp only [World.cell?, this, Nat.zero_add]
  simpa using hj

end Go.Proofs.YtpfgepgjpnekdaaDoor

namespace Go.Proofs.YtpfgepgjpnekdaaDoor
open Go.RowKit Trc
set_option linter.unusedSimpArgs false
set_option linter.unusedVariables false

end Go.Proofs.YtpfgepgjpnekdaaDoor
