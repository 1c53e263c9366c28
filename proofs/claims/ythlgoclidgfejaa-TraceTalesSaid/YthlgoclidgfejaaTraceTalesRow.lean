/-
  TraceTales: FOR EVERY INPUT IT RETURNS true, AND EACH ARGUMENT READS BEHIND THE CALL AS IT READ BEFORE. No condition.
-/
import Derived.Test.YthlgoclidgfejaaRows
import Derived.Test.YthlgoclidgfejaaTraceTalesL
import Derived.Test.YthlgoclidgfejaaOpen
import Derived.SizedLaws
namespace Go.Proofs.Ythlgoclidgfejaa.traceTalesRow
open Go.ChangeShapes Go.WideShapes Go.ChangeAt Go.RowKit
open Go.ChangeMaps (open_string shut_string)
set_option linter.unusedVariables false

theorem own : ownKnob Try.prog.godebug = none := by kernel_rfl
theorem laidOut : laidOutB Try.prog = true := by kernel_rfl

set_option maxRecDepth 100000 in
theorem lifted (os : Os) (started : os.Started) (H : Type) (enc : TypeId × Value → H) :
    ReturnsInHanded {} Try.checked os 5 .any (Rows.traceTalesSpec.pre6 enc Try.prog Try.f5 Rows.traceTalesRow.domain false) (Rows.traceTalesSpec.post enc Try.prog Try.f5 false true false false) := by
  refine returnsInHanded_of_change (C := Try.checked) own started (by kernel_rfl) Try.func5
    (ChangeSpec.witness6 (enc := enc) (C := Try.checked) false ⟨#[], #[.slice none 0 0, .agg #[.int .u32 0, .int .u32 0, .int .u64 0, .int .u32 0], .int .i64 0], []⟩ 8 (by kernel_rfl) (by kernel_rfl) (by kernel_rfl) (by kernel_rfl)) ?_
  intro W base args ds gs before hval0 hW hcnd hsz
  have hval : ∀ (j : Nat) t v, Try.f5.params[j]? = some t → args[j]? = some v → Value.okWide Try.prog W .any base t v := hval0
  have hW' := hW
  obtain ⟨p, q, hA0, hV, rfl, hfz, hnd⟩ := hW
  have hA : DataW.TrodAll enc Try.prog W 0 (fun _ => true) true Try.f5.params.toList args.toList ds p := hA0
  rw [Try.params5] at hA hval
  obtain ⟨v0, vs0, d0, ds0, p0, q0, hargs, rfl, rfl, h0, r0⟩ := trodAll_cons hA
  obtain ⟨v1, vs1, d1, ds1, p1, q1, rfl, rfl, rfl, h1, r1⟩ := trodAll_cons r0
  obtain ⟨v2, vs2, d2, ds2, p2, q2, rfl, rfl, rfl, h2, r2⟩ := trodAll_cons r1
  obtain ⟨rfl, rfl, rfl⟩ := trodAll_nil r2
  obtain rfl : args = #[v0, v1, v2] := by cases args; simp_all
  obtain ⟨rfl, rfl⟩ := trodVars_none hV
  have k0 := h0
  have lt0 : ∀ x ∈ p0, x.block < W.heap.size := by obtain ⟨m, hm⟩ := k0; exact DataW.trod_lt m _ _ _ hm
  have k1 := h1
  have lt1 : ∀ x ∈ p1, x.block < W.heap.size := by obtain ⟨m, hm⟩ := k1; exact DataW.trod_lt m _ _ _ hm
  have k2 := h2
  have lt2 : ∀ x ∈ p2, x.block < W.heap.size := by obtain ⟨m, hm⟩ := k2; exact DataW.trod_lt m _ _ _ hm
  obtain ⟨a0, len0, cap0, rfl⟩ := okWide_slice Try.underlying22 (hval 0 22 v0 rfl rfl)
  obtain ⟨fu0, hf0⟩ := h0
  obtain ⟨a0', len0', cap0', vs0', hcs0, sl0, lf0, nl0⟩ := open_flat (ls := [43, 37, 34, 34, 37, 34, 34, 37, 34, 44, 34, 34, 37, 34, 3, 24]) (sz := 16) Try.underlying22 (by kernel_rfl) rfl (by kernel_rfl) (by decide) hf0
  simp only [Value.cells, List.cons.injEq, Value.slice.injEq, and_true] at hcs0
  obtain ⟨rfl, rfl, rfl⟩ := hcs0
  obtain ⟨cs1, rfl, hsz1⟩ : ∃ cs, v1 = .agg cs ∧ cs.size = 4 := by
    have := hval 1 39 v1 rfl rfl
    simp only [Value.okWide, Try.underlying39] at this
    obtain ⟨cs, h1, h2, _⟩ := this
    exact ⟨cs, h1, h2.trans (by kernel_rfl)⟩
  obtain ⟨fu1, hf1⟩ := h1
  obtain ⟨_, hl1⟩ := trod_leaves 12 _ _ _ _ [34, 34, 37, 34] hf1 (by kernel_rfl)
  obtain ⟨l1⟩ := cs1
  obtain ⟨c1_0, e1_0, L1_0⟩ := hl1 0 _ rfl
  obtain ⟨x0, rfl, wx0⟩ := Leaf.int Try.underlying34 L1_0
  obtain ⟨c1_1, e1_1, L1_1⟩ := hl1 1 _ rfl
  obtain ⟨x1, rfl, wx1⟩ := Leaf.int Try.underlying34 L1_1
  obtain ⟨c1_2, e1_2, L1_2⟩ := hl1 2 _ rfl
  obtain ⟨x2, rfl, wx2⟩ := Leaf.int Try.underlying37 L1_2
  obtain ⟨c1_3, e1_3, L1_3⟩ := hl1 3 _ rfl
  obtain ⟨x3, rfl, wx3⟩ := Leaf.int Try.underlying34 L1_3
  obtain rfl : l1 = [.int .u32 x0, .int .u32 x1, .int .u64 x2, .int .u32 x3] := by
    refine List.ext_getElem? fun i => ?_
    match i with
    | 0 => simpa [Value.cells] using e1_0
    | 1 => simpa [Value.cells] using e1_1
    | 2 => simpa [Value.cells] using e1_2
    | 3 => simpa [Value.cells] using e1_3
    | i + 4 => rw [List.getElem?_eq_none (by simp at hsz1; omega), List.getElem?_eq_none (by simp)]
  obtain ⟨many, rfl, _, _, wmany⟩ := open_int Try.underlying3 (hval 2 3 v2 rfl rfl) h2
  clear hA0 hval0
  refine (traceTales_law x0 x1 x2 x3 many W wx0 wx1 wx2 wx3 sl0 lf0).mono fun e W' ⟨he, bel⟩ => ?_
  subst he
  exact ⟨_, rfl, _, _, _, [], _, [], hW', trodAll_mk1 (shut_bool Try.underlying4 _), (trodAll_cons_mk (Below.trod laidOut (by kernel_rfl) (of_decide_eq_true (by kernel_rfl)) k0 bel lt0) (trodAll_cons_mk (Below.trod laidOut (by kernel_rfl) (of_decide_eq_true (by kernel_rfl)) k1 bel lt1) (trodAll_cons_mk (Below.trod laidOut (by kernel_rfl) (of_decide_eq_true (by kernel_rfl)) k2 bel lt2) trodAll_mk0))), rfl, bel.frame _, fun h => by cases h⟩

theorem over : Rows.traceTalesRow.holds Try.pinned (OpenSpec.ofChange Rows.traceTalesSpec) :=
  OpenClaim.holds_of_wide 5 Try.f5 rfl rfl rfl rfl rfl rfl rfl ⟨rfl, rfl, rfl, rfl, rfl⟩ rfl rfl rfl rfl rfl (by kernel_rfl) Try.func5 (by kernel_rfl)
    (of_decide_eq_true (by kernel_rfl)) (by unfold Func.isWrapper; first | (rw [if_pos (by decide +kernel)]; kernel_rfl) | (rw [if_neg (by decide +kernel)]; exact ⟨rfl, rfl⟩))
    (fun os started H enc _ => lifted os started H enc)

theorem proved : Rows.TraceTalesSaid := over
#print axioms proved
end Go.Proofs.Ythlgoclidgfejaa.traceTalesRow
