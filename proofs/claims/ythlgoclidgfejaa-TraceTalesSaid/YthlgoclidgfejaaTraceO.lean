/-
  A slice of events, opened.
-/
import Derived.Test.YthlgoclidgfejaaRecOpen
import Derived.Test.YthlgoclidgfejaaTraceH
namespace Go.Proofs.Ythlgoclidgfejaa
open Go.RowKit Trc
set_option linter.unusedVariables false

namespace Trc
def Ev.wf (e : Ev) : Prop := e.name.wf ∧ e.gname.wf ∧ (Lit.int .u64 e.at_).wf = true
end Trc
theorem node_nonneg {n : Nm} (h : n.wf) : 0 ≤ n.node := by
  have h1 := h.1
  simp [Lit.wf, IntKind.min, IntKind.max, IntKind.signed, IntKind.bits] at h1
  omega
abbrev evLs : List TypeId := [43, 37, 34, 34, 37, 34, 34, 37, 34, 44, 34, 34, 37, 34, 3, 24]
theorem open_evs {H : Type} {enc : TypeId × Value → H} {w : World} {base : Nat} {spare : Nat → Bool} {held : Bool} {v : Value} {n : Nat} {vs : List Value} (hs : Sl w 16 v n vs)
    (hl : ∀ i, i < n → ∀ (j : Nat) (T : TypeId), evLs[j]? = some T → ∃ c, vs[i * 16 + j]? = some c ∧ Leaf enc Try.prog w base spare held T c) : ∃ l : List Ev, vs = l.flatMap evC ∧ ∀ e ∈ l, e.wf := by
  refine recs_of (cells := evC) (fun _ => rfl) n vs hs.1 (fun i hi => ?_)
  obtain ⟨c0, e0, L0⟩ := hl i hi 0 _ rfl
  obtain ⟨x0, rfl, w0⟩ := Leaf.int Try.underlying43 L0
  obtain ⟨c1, e1, L1⟩ := hl i hi 1 _ rfl
  obtain ⟨x1, rfl, w1⟩ := Leaf.int Try.underlying37 L1
  obtain ⟨c2, e2, L2⟩ := hl i hi 2 _ rfl
  obtain ⟨x2, rfl, w2⟩ := Leaf.int Try.underlying34 L2
  obtain ⟨c3, e3, L3⟩ := hl i hi 3 _ rfl
  obtain ⟨x3, rfl, w3⟩ := Leaf.int Try.underlying34 L3
  obtain ⟨c4, e4, L4⟩ := hl i hi 4 _ rfl
  obtain ⟨x4, rfl, w4⟩ := Leaf.int Try.underlying37 L4
  obtain ⟨c5, e5, L5⟩ := hl i hi 5 _ rfl
  obtain ⟨x5, rfl, w5⟩ := Leaf.int Try.underlying34 L5
  obtain ⟨c6, e6, L6⟩ := hl i hi 6 _ rfl
  obtain ⟨x6, rfl, w6⟩ := Leaf.int Try.underlying34 L6
  obtain ⟨c7, e7, L7⟩ := hl i hi 7 _ rfl
  obtain ⟨x7, rfl, w7⟩ := Leaf.int Try.underlying37 L7
  obtain ⟨c8, e8, L8⟩ := hl i hi 8 _ rfl
  obtain ⟨x8, rfl, w8⟩ := Leaf.int Try.underlying34 L8
  obtain ⟨c9, e9, L9⟩ := hl i hi 9 _ rfl
  obtain ⟨x9, rfl, w9⟩ := Leaf.int Try.underlying44 L9
  obtain ⟨c10, e10, L10⟩ := hl i hi 10 _ rfl
  obtain ⟨x10, rfl, w10⟩ := Leaf.int Try.underlying34 L10
  obtain ⟨c11, e11, L11⟩ := hl i hi 11 _ rfl
  obtain ⟨x11, rfl, w11⟩ := Leaf.int Try.underlying34 L11
  obtain ⟨c12, e12, L12⟩ := hl i hi 12 _ rfl
  obtain ⟨x12, rfl, w12⟩ := Leaf.int Try.underlying37 L12
  obtain ⟨c13, e13, L13⟩ := hl i hi 13 _ rfl
  obtain ⟨x13, rfl, w13⟩ := Leaf.int Try.underlying34 L13
  obtain ⟨c14, e14, L14⟩ := hl i hi 14 _ rfl
  obtain ⟨x14, rfl, w14⟩ := Leaf.int Try.underlying3 L14
  obtain ⟨c15, e15, L15⟩ := hl i hi 15 _ rfl
  obtain ⟨x15, rfl, w15⟩ := Leaf.int Try.underlying24 L15
  refine ⟨⟨x0, x1, x2, x3, x4, ⟨x5, x6, x7, x8⟩, x9, ⟨x10, x11, x12, x13⟩, x14, x15⟩, ⟨⟨w5, w6, w7, w8⟩, ⟨w10, w11, w12, w13⟩, w1⟩, fun j hj => ?_⟩
  match j with
  | 0 => exact e0
  | 1 => exact e1
  | 2 => exact e2
  | 3 => exact e3
  | 4 => exact e4
  | 5 => exact e5
  | 6 => exact e6
  | 7 => exact e7
  | 8 => exact e8
  | 9 => exact e9
  | 10 => exact e10
  | 11 => exact e11
  | 12 => exact e12
  | 13 => exact e13
  | 14 => exact e14
  | 15 => exact e15
  | j + 16 => omega
end Go.Proofs.Ythlgoclidgfejaa
