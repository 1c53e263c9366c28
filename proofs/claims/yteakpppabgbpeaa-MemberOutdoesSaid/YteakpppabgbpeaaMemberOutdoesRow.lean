/-
  MemberOutdoes: FOR EVERY INPUT IT RETURNS true, AND EACH ARGUMENT READS BEHIND THE CALL AS IT READ BEFORE. No condition.
-/
import Derived.Test.YteakpppabgbpeaaRows
import Derived.Test.YteakpppabgbpeaaMemberOutdoes
import Derived.Test.YteakpppabgbpeaaOpen
import Derived.SizedLaws
namespace Go.Proofs.Yteakpppabgbpeaa.memberOutdoesRow
open Go.ChangeShapes Go.WideShapes Go.ChangeAt Go.RowKit
open Go.ChangeMaps (open_string shut_string)
set_option linter.unusedVariables false

theorem own : ownKnob Try.prog.godebug = none := by kernel_rfl
theorem laidOut : laidOutB Try.prog = true := by kernel_rfl

set_option maxRecDepth 100000 in
theorem lifted (os : Os) (started : os.Started) (H : Type) (enc : TypeId × Value → H) :
    ReturnsInHanded {} Try.checked os 3 .any (Rows.memberOutdoesSpec.pre6 enc Try.prog Try.f3 Rows.memberOutdoesRow.domain false) (Rows.memberOutdoesSpec.post enc Try.prog Try.f3 false true false false) := by
  refine returnsInHanded_of_change (C := Try.checked) own started (by kernel_rfl) Try.func3
    (ChangeSpec.witness6 (enc := enc) (C := Try.checked) false ⟨#[], #[.agg #[.int .u32 0, .int .u32 0, .int .u32 0, .bool false], .agg #[.int .u32 0, .int .u32 0, .int .u32 0, .bool false]], []⟩ 8 (by kernel_rfl) (by kernel_rfl) (by kernel_rfl) (by kernel_rfl)) ?_
  intro W base args ds gs before hval0 hW hcnd hsz
  have hval : ∀ (j : Nat) t v, Try.f3.params[j]? = some t → args[j]? = some v → Value.okWide Try.prog W .any base t v := hval0
  have hW' := hW
  obtain ⟨p, q, hA0, hV, rfl, hfz, hnd⟩ := hW
  have hA : DataW.TrodAll enc Try.prog W 0 (fun _ => true) true Try.f3.params.toList args.toList ds p := hA0
  rw [Try.params3] at hA hval
  obtain ⟨v0, vs0, d0, ds0, p0, q0, hargs, rfl, rfl, h0, r0⟩ := trodAll_cons hA
  obtain ⟨v1, vs1, d1, ds1, p1, q1, rfl, rfl, rfl, h1, r1⟩ := trodAll_cons r0
  obtain ⟨rfl, rfl, rfl⟩ := trodAll_nil r1
  obtain rfl : args = #[v0, v1] := by cases args; simp_all
  obtain ⟨rfl, rfl⟩ := trodVars_none hV
  have k0 := h0
  have lt0 : ∀ x ∈ p0, x.block < W.heap.size := by obtain ⟨m, hm⟩ := k0; exact DataW.trod_lt m _ _ _ hm
  have k1 := h1
  have lt1 : ∀ x ∈ p1, x.block < W.heap.size := by obtain ⟨m, hm⟩ := k1; exact DataW.trod_lt m _ _ _ hm
  obtain ⟨cs0, rfl, hsz0⟩ : ∃ cs, v0 = .agg cs ∧ cs.size = 4 := by
    have := hval 0 24 v0 rfl rfl
    simp only [Value.okWide, Try.underlying24] at this
    obtain ⟨cs, h1, h2, _⟩ := this
    exact ⟨cs, h1, h2.trans (by kernel_rfl)⟩
  obtain ⟨fu0, hf0⟩ := h0
  obtain ⟨_, hl0⟩ := trod_leaves 12 _ _ _ _ [22, 22, 22, 4] hf0 (by kernel_rfl)
  obtain ⟨l0⟩ := cs0
  obtain ⟨c0_0, e0_0, L0_0⟩ := hl0 0 _ rfl
  obtain ⟨a0, rfl, wa0⟩ := Leaf.int Try.underlying22 L0_0
  obtain ⟨c0_1, e0_1, L0_1⟩ := hl0 1 _ rfl
  obtain ⟨a1, rfl, wa1⟩ := Leaf.int Try.underlying22 L0_1
  obtain ⟨c0_2, e0_2, L0_2⟩ := hl0 2 _ rfl
  obtain ⟨a2, rfl, wa2⟩ := Leaf.int Try.underlying22 L0_2
  obtain ⟨c0_3, e0_3, L0_3⟩ := hl0 3 _ rfl
  obtain ⟨a3, rfl⟩ := Leaf.bool Try.underlying4 L0_3
  obtain rfl : l0 = [.int .u32 a0, .int .u32 a1, .int .u32 a2, .bool a3] := by
    refine List.ext_getElem? fun i => ?_
    match i with
    | 0 => simpa [Value.cells] using e0_0
    | 1 => simpa [Value.cells] using e0_1
    | 2 => simpa [Value.cells] using e0_2
    | 3 => simpa [Value.cells] using e0_3
    | i + 4 => rw [List.getElem?_eq_none (by simp at hsz0; omega), List.getElem?_eq_none (by simp)]
  obtain ⟨cs1, rfl, hsz1⟩ : ∃ cs, v1 = .agg cs ∧ cs.size = 4 := by
    have := hval 1 24 v1 rfl rfl
    simp only [Value.okWide, Try.underlying24] at this
    obtain ⟨cs, h1, h2, _⟩ := this
    exact ⟨cs, h1, h2.trans (by kernel_rfl)⟩
  obtain ⟨fu1, hf1⟩ := h1
  obtain ⟨_, hl1⟩ := trod_leaves 12 _ _ _ _ [22, 22, 22, 4] hf1 (by kernel_rfl)
  obtain ⟨l1⟩ := cs1
  obtain ⟨c1_0, e1_0, L1_0⟩ := hl1 0 _ rfl
  obtain ⟨b0, rfl, wb0⟩ := Leaf.int Try.underlying22 L1_0
  obtain ⟨c1_1, e1_1, L1_1⟩ := hl1 1 _ rfl
  obtain ⟨b1, rfl, wb1⟩ := Leaf.int Try.underlying22 L1_1
  obtain ⟨c1_2, e1_2, L1_2⟩ := hl1 2 _ rfl
  obtain ⟨b2, rfl, wb2⟩ := Leaf.int Try.underlying22 L1_2
  obtain ⟨c1_3, e1_3, L1_3⟩ := hl1 3 _ rfl
  obtain ⟨b3, rfl⟩ := Leaf.bool Try.underlying4 L1_3
  obtain rfl : l1 = [.int .u32 b0, .int .u32 b1, .int .u32 b2, .bool b3] := by
    refine List.ext_getElem? fun i => ?_
    match i with
    | 0 => simpa [Value.cells] using e1_0
    | 1 => simpa [Value.cells] using e1_1
    | 2 => simpa [Value.cells] using e1_2
    | 3 => simpa [Value.cells] using e1_3
    | i + 4 => rw [List.getElem?_eq_none (by simp at hsz1; omega), List.getElem?_eq_none (by simp)]
  clear hA0 hval0
  refine (memberOutdoes_law ⟨a0, a1, a2, a3⟩ ⟨b0, b1, b2, b3⟩ W).mono fun e W' ⟨he, bel⟩ => ?_
  subst he
  exact ⟨_, rfl, _, _, _, [], _, [], hW', trodAll_mk1 (shut_bool Try.underlying4 _), (trodAll_cons_mk (Below.trod laidOut (by kernel_rfl) (of_decide_eq_true (by kernel_rfl)) k0 bel lt0) (trodAll_cons_mk (Below.trod laidOut (by kernel_rfl) (of_decide_eq_true (by kernel_rfl)) k1 bel lt1) trodAll_mk0)), rfl, bel.frame _, fun h => by cases h⟩

theorem over : Rows.memberOutdoesRow.holds Try.pinned (OpenSpec.ofChange Rows.memberOutdoesSpec) :=
  OpenClaim.holds_of_wide 3 Try.f3 rfl rfl rfl rfl rfl rfl rfl ⟨rfl, rfl, rfl, rfl, rfl⟩ rfl rfl rfl rfl rfl (by kernel_rfl) Try.func3 (by kernel_rfl)
    (of_decide_eq_true (by kernel_rfl)) (by unfold Func.isWrapper; first | (rw [if_pos (by decide +kernel)]; kernel_rfl) | (rw [if_neg (by decide +kernel)]; exact ⟨rfl, rfl⟩))
    (fun os started H enc _ => lifted os started H enc)

theorem proved : Rows.MemberOutdoesSaid := over
#print axioms proved
end Go.Proofs.Yteakpppabgbpeaa.memberOutdoesRow
