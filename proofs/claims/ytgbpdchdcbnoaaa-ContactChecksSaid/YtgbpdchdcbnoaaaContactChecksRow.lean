/-
  ContactChecks: FOR EVERY INPUT IT RETURNS true, AND EACH ARGUMENT READS BEHIND THE CALL AS IT READ BEFORE. No condition.
-/
import Derived.Test.YtgbpdchdcbnoaaaRows
import Derived.Test.YtgbpdchdcbnoaaaContactChecks
import Derived.Test.YtgbpdchdcbnoaaaOpen
import Derived.SizedLaws
namespace Go.Proofs.Ytgbpdchdcbnoaaa.contactChecksRow
open Go.ChangeShapes Go.WideShapes Go.ChangeAt Go.RowKit
open Go.ChangeMaps (open_string shut_string)
set_option linter.unusedVariables false

theorem own : ownKnob Try.prog.godebug = none := by kernel_rfl
theorem laidOut : laidOutB Try.prog = true := by kernel_rfl

set_option maxRecDepth 100000 in
theorem lifted (os : Os) (started : os.Started) (H : Type) (enc : TypeId × Value → H) :
    ReturnsInHanded {} Try.checked os 3 .any (Rows.contactChecksSpec.pre6 enc Try.prog Try.f3 Rows.contactChecksRow.domain false) (Rows.contactChecksSpec.post enc Try.prog Try.f3 false true false false) := by
  refine returnsInHanded_of_change (C := Try.checked) own started (by kernel_rfl) Try.func3
    (ChangeSpec.witness6 (enc := enc) (C := Try.checked) false ⟨#[], #[.agg #[.int .u32 0, .int .u32 0, .int .u64 0, .int .u64 0, .int .u64 0]], []⟩ 8 (by kernel_rfl) (by kernel_rfl) (by kernel_rfl) (by kernel_rfl)) ?_
  intro W base args ds gs before hval0 hW hcnd hsz
  have hval : ∀ (j : Nat) t v, Try.f3.params[j]? = some t → args[j]? = some v → Value.okWide Try.prog W .any base t v := hval0
  have hW' := hW
  obtain ⟨p, q, hA0, hV, rfl, hfz, hnd⟩ := hW
  have hA : DataW.TrodAll enc Try.prog W 0 (fun _ => true) true Try.f3.params.toList args.toList ds p := hA0
  rw [Try.params3] at hA hval
  obtain ⟨v0, vs0, d0, ds0, p0, q0, hargs, rfl, rfl, h0, r0⟩ := trodAll_cons hA
  obtain ⟨rfl, rfl, rfl⟩ := trodAll_nil r0
  obtain rfl : args = #[v0] := by cases args; simp_all
  obtain ⟨rfl, rfl⟩ := trodVars_none hV
  have k0 := h0
  have lt0 : ∀ x ∈ p0, x.block < W.heap.size := by obtain ⟨m, hm⟩ := k0; exact DataW.trod_lt m _ _ _ hm
  obtain ⟨cs0, rfl, hsz0⟩ : ∃ cs, v0 = .agg cs ∧ cs.size = 5 := by
    have := hval 0 27 v0 rfl rfl
    simp only [Value.okWide, Try.underlying27] at this
    obtain ⟨cs, h1, h2, _⟩ := this
    exact ⟨cs, h1, h2.trans (by kernel_rfl)⟩
  obtain ⟨fu0, hf0⟩ := h0
  obtain ⟨_, hl0⟩ := trod_leaves 12 _ _ _ _ [22, 22, 23, 23, 23] hf0 (by kernel_rfl)
  obtain ⟨l0⟩ := cs0
  obtain ⟨c0_0, e0_0, L0_0⟩ := hl0 0 _ rfl
  obtain ⟨c0, rfl, wc0⟩ := Leaf.int Try.underlying22 L0_0
  obtain ⟨c0_1, e0_1, L0_1⟩ := hl0 1 _ rfl
  obtain ⟨c1, rfl, wc1⟩ := Leaf.int Try.underlying22 L0_1
  obtain ⟨c0_2, e0_2, L0_2⟩ := hl0 2 _ rfl
  obtain ⟨c2, rfl, wc2⟩ := Leaf.int Try.underlying23 L0_2
  obtain ⟨c0_3, e0_3, L0_3⟩ := hl0 3 _ rfl
  obtain ⟨c3, rfl, wc3⟩ := Leaf.int Try.underlying23 L0_3
  obtain ⟨c0_4, e0_4, L0_4⟩ := hl0 4 _ rfl
  obtain ⟨c4, rfl, wc4⟩ := Leaf.int Try.underlying23 L0_4
  obtain rfl : l0 = [.int .u32 c0, .int .u32 c1, .int .u64 c2, .int .u64 c3, .int .u64 c4] := by
    refine List.ext_getElem? fun i => ?_
    match i with
    | 0 => simpa [Value.cells] using e0_0
    | 1 => simpa [Value.cells] using e0_1
    | 2 => simpa [Value.cells] using e0_2
    | 3 => simpa [Value.cells] using e0_3
    | 4 => simpa [Value.cells] using e0_4
    | i + 5 => rw [List.getElem?_eq_none (by simp at hsz0; omega), List.getElem?_eq_none (by simp)]
  clear hA0 hval0
  refine (contactChecks_law c0 c1 c2 c3 c4 wc0 wc1 wc2 wc3 wc4 W).mono fun e W' ⟨he, bel⟩ => ?_
  subst he
  exact ⟨_, rfl, _, _, _, [], _, [], hW', trodAll_mk1 (shut_bool Try.underlying4 _), (trodAll_cons_mk (Below.trod laidOut (by kernel_rfl) (of_decide_eq_true (by kernel_rfl)) k0 bel lt0) trodAll_mk0), rfl, bel.frame _, fun h => by cases h⟩

theorem over : Rows.contactChecksRow.holds Try.pinned (OpenSpec.ofChange Rows.contactChecksSpec) :=
  OpenClaim.holds_of_wide 3 Try.f3 rfl rfl rfl rfl rfl rfl rfl ⟨rfl, rfl, rfl, rfl, rfl⟩ rfl rfl rfl rfl rfl (by kernel_rfl) Try.func3 (by kernel_rfl)
    (of_decide_eq_true (by kernel_rfl)) (by unfold Func.isWrapper; first | (rw [if_pos (by decide +kernel)]; kernel_rfl) | (rw [if_neg (by decide +kernel)]; exact ⟨rfl, rfl⟩))
    (fun os started H enc _ => lifted os started H enc)

theorem proved : Rows.ContactChecksSaid := over
#print axioms proved
end Go.Proofs.Ytgbpdchdcbnoaaa.contactChecksRow
