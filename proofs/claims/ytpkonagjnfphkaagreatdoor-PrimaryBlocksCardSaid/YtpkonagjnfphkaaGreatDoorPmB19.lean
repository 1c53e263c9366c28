/-
  NmEnd: several texts in one (bundle.py).
-/
import Derived.Test.YtpkonagjnfphkaaGreatDoorPmB18
import Derived.Test.YtpkonagjnfphkaaGreatDoorPmB06
import Derived.Test.YtpkonagjnfphkaaGreatDoorPmB08
import Derived.Test.YtpkonagjnfphkaaGreatDoorPmB11
namespace Go.Proofs.YtpkonagjnfphkaaGreatDoor
open Go.RowKit
set_option linter.unusedSimpArgs false
set_option linter.unusedVariables false
namespace Dig
def nobodyL : List UInt8 := [100, 116, 110, 58, 110, 111, 110, 101]
def ipnL : List UInt8 := [105, 112, 110, 58]
/-- The endpoint of a text. -/
def endP (l : List UInt8) : Option (Nat × Nat) :=
  if l = nobodyL then some (0, 0)
  else if l.take 4 = ipnL then
    match cut 46 (l.drop 4) with
    | none => none
    | some (a, b) => match toNum a 4294967295, toNum b 4294967295 with
      | some n, some m => if n = 0 then none else some (n, m)
      | _, _ => none
  else none
theorem prefix_ipn (l : List UInt8) : Lib.hasPrefix l ipnL = decide (l.take 4 = ipnL) := by
  unfold Lib.hasPrefix
  rw [Bool.eq_iff_iff, List.isPrefixOf_iff_prefix, List.prefix_iff_eq_take, decide_eq_true_eq]
  exact ⟨fun h => h.symm, fun h => h.symm⟩
theorem endP_le {l : List UInt8} {p : Nat × Nat} (h : endP l = some p) : p.1 ≤ 4294967295 ∧ p.2 ≤ 4294967295 ∧ (p.1 = 0 → p.2 = 0) := by
  unfold endP at h
  split at h
  · cases h; exact ⟨by simp, by simp, fun _ => rfl⟩
  · split at h
    · split at h
      · cases h
      · split at h
        · rename_i n m hn hm
          split at h
          · cases h
          · rename_i h0
            cases h
            exact ⟨toNum_le hn, toNum_le hm, fun e => absurd e h0⟩
        · cases h
    · cases h
end Dig
theorem UpTo.yes {c : UInt8} {l : List UInt8} {b : Nat} {T : TypeId} {w w' : World} {en : Ending} {x y : List UInt8} (h : UpTo c l b T w en w') (hc : Dig.cut c l = some (x, y)) : en = .returned (strV x) ∧ But (· = b) w w' ∧ RowAt w' b #[strV y] T := by
  unfold UpTo at h; rw [hc] at h; exact h
theorem UpTo.no {c : UInt8} {l : List UInt8} {b : Nat} {T : TypeId} {w w' : World} {en : Ending} (h : UpTo c l b T w en w') (hc : Dig.cut c l = none) : en = .panicked (gup 130) ∧ Below w.heap.size w w' := by
  unfold UpTo at h; rw [hc] at h; exact h
theorem Bdd.yes {l : List UInt8} {bound n : Nat} {w w' : World} {en : Ending} (h : Bdd l bound w en w') (hc : Dig.toNum l bound = some n) : en = .returned (.int .u64 n) ∧ Below w.heap.size w w' := by
  have := h.2; rw [hc] at this; exact ⟨this, h.1⟩
theorem Bdd.gives {l : List UInt8} {bound : Nat} {w w' : World} {en : Ending} (h : Bdd l bound w en w') (hc : Dig.toNum l bound = none) : en = .panicked (gup 130) ∧ Below w.heap.size w w' := by
  have := h.2; rw [hc] at this; exact ⟨this, h.1⟩
theorem wp_cutP {P : Program} {c : Code} {Q : Exit → Act → World → Prop} {a : Act} {w : World} (J : Act → World → Prop) (h1 : c.wp P (onlyN fun _ a w => J a w) a w) (h2 : ∀ a' w', J a' w' → Q .normal a' w') : c.wp P Q a w :=
  Code.wp_mono (fun e a' w' he => by obtain ⟨rfl, h⟩ := he; exact h2 _ _ h) h1
/-- What endpoint tells. -/
def EndE (l : List UInt8) (w : World) (en : Ending) (w' : World) : Prop := Below w.heap.size w w' ∧ match Dig.endP l with
  | some p => en = .returned (.agg #[.int .u32 p.1, .int .u32 p.2])
  | none => en = .panicked (gup 130)
theorem EndE.no {l : List UInt8} {w w' : World} (h : Dig.endP l = none) (hw : Below w.heap.size w w') : EndE l w (.panicked (gup 130)) w' := ⟨hw, by rw [h]⟩
theorem EndE.yes {l : List UInt8} {w w' : World} {p : Nat × Nat} (h : Dig.endP l = some p) (hw : Below w.heap.size w w') : EndE l w (.returned (.agg #[.int .u32 p.1, .int .u32 p.2])) w' := ⟨hw, by rw [h]⟩
theorem but_below {B : Nat} {A w w' : World} {O : Nat → Prop} (h : Below B A w) (hb : But O w w') (hO : ∀ k, O k → B ≤ k) (hB : B ≤ A.heap.size) : Below B A w' := h.trans (hb.below hO (Nat.le_trans hB h.size))
end Go.Proofs.YtpkonagjnfphkaaGreatDoor
