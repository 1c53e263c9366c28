/-
  A list of bytes, out of an argument's leaves. (for seats that lack the texts of chapter 01's laws)
-/
import Derived.Test.YtinohligpncpiaaBytes
import Derived.Test.YtinohligpncpiaaOpen
namespace Go.Proofs.Ytinohligpncpiaa
open Go.RowKit Go.ChangeAt
set_option linter.unusedSimpArgs false
set_option linter.unusedVariables false

theorem bytes_of {H : Type} {enc : TypeId × Value → H} {w : World} {base : Nat} {spare : Nat → Bool} {held : Bool} {T : TypeId} (ht : Try.prog.underlying T = some (.int .u8)) {v : Value} {n : Nat} {vs : List Value} (hsl : Sl w 1 v n vs)
    (hl : ∀ i, i < n → ∀ (j : Nat) (U : TypeId), [T][j]? = some U → ∃ c, vs[i * 1 + j]? = some c ∧ Leaf enc Try.prog w base spare held U c) : ∃ l, vs = by8 l := by
  have hlen : vs.length = n := by have := hsl.1; omega
  have : ∀ (vs : List Value), (∀ i, i < vs.length → ∃ x : UInt8, vs[i]? = some (.int .u8 (x.toNat : Int))) → ∃ l, vs = by8 l := by
    intro vs
    induction vs with
    | nil => intro _; exact ⟨[], rfl⟩
    | cons u vs ih =>
      intro h
      obtain ⟨x, hx⟩ := h 0 (by simp)
      obtain ⟨l, hl⟩ := ih (fun i hi => by have := h (i + 1) (by simpa using hi); simpa using this)
      simp at hx
      exact ⟨x :: l, by rw [hx, hl]; rfl⟩
  refine this vs (fun i hi => ?_)
  obtain ⟨c, hc, hL⟩ := hl i (by omega) 0 T rfl
  obtain ⟨m, rfl, hm⟩ := hL.int ht
  simp [Lit.wf, IntKind.min, IntKind.max, IntKind.signed, IntKind.bits] at hm
  refine ⟨UInt8.ofNat m.toNat, ?_⟩
  have e : ((UInt8.ofNat m.toNat).toNat : Int) = m := by simp only [UInt8.toNat_ofNat']; omega
  rw [e]
  simpa using hc
end Go.Proofs.Ytinohligpncpiaa
