/-
  MemberJoins: FOR EVERY INPUT IT RETURNS true, AND EACH ARGUMENT READS BEHIND THE CALL AS IT READ BEFORE. No condition.
-/
import Derived.Test.YteakpppabgbpeaaRows
import Derived.Test.YteakpppabgbpeaaMemberJoins
import Derived.Test.YteakpppabgbpeaaOpen
import Derived.SizedLaws
namespace Go.Proofs.Yteakpppabgbpeaa.memberJoinsRow
open Go.ChangeShapes Go.WideShapes Go.ChangeAt Go.RowKit
open Go.ChangeMaps (open_string shut_string)
set_option linter.unusedVariables false

theorem own : ownKnob Try.prog.godebug = none := by kernel_rfl
theorem laidOut : laidOutB Try.prog = true := by kernel_rfl

set_option maxRecDepth 100000 in
theorem lifted (os : Os) (started : os.Started) (H : Type) (enc : TypeId × Value → H) :
    ReturnsInHanded {} Try.checked os 7 .any (Rows.memberJoinsSpec.pre6 enc Try.prog Try.f7 Rows.memberJoinsRow.domain false) (Rows.memberJoinsSpec.post enc Try.prog Try.f7 false true false false) := by
  refine returnsInHanded_of_change (C := Try.checked) own started (by kernel_rfl) Try.func7
    (ChangeSpec.witness6 (enc := enc) (C := Try.checked) false ⟨#[], #[.slice none 0 0, .slice none 0 0, .agg #[.int .u32 0, .int .u32 0, .int .u32 0, .bool false]], []⟩ 8 (by kernel_rfl) (by kernel_rfl) (by kernel_rfl) (by kernel_rfl)) ?_
  intro W base args ds gs before hval0 hW hcnd hsz
  have hval : ∀ (j : Nat) t v, Try.f7.params[j]? = some t → args[j]? = some v → Value.okWide Try.prog W .any base t v := hval0
  have hW' := hW
  obtain ⟨p, q, hA0, hV, rfl, hfz, hnd⟩ := hW
  have hA : DataW.TrodAll enc Try.prog W 0 (fun _ => true) true Try.f7.params.toList args.toList ds p := hA0
  rw [Try.params7] at hA hval
  obtain ⟨v0, vs0, d0, ds0, p0, q0, hargs, rfl, rfl, h0, r0⟩ := trodAll_cons hA
  obtain ⟨v1, vs1, d1, ds1, p1, q1, rfl, rfl, rfl, h1, r1⟩ := trodAll_cons r0
  obtain ⟨v2, vs2, d2, ds2, p2, q2, rfl, rfl, rfl, h2, r2⟩ := trodAll_cons r1
  obtain ⟨rfl, rfl, rfl⟩ := trodAll_nil r2
  obtain rfl : args = #[v0, v1, v2] := by cases args; simp_all
  obtain ⟨rfl, rfl⟩ := trodVars_none hV
  have k0 := h0
  have lt0 : ∀ x ∈ p0, x.block < W.heap.size := by obtain ⟨m, hm⟩ := k0; exact DataW.trod_lt m _ _ _ hm
  have k1 := h1
  have lt1 : ∀ x ∈ p1, x.block < W.heap.size := by obtain ⟨m, hm⟩ := k1; exact DataW.trod_lt m _ _ _ hm
  have k2 := h2
  have lt2 : ∀ x ∈ p2, x.block < W.heap.size := by obtain ⟨m, hm⟩ := k2; exact DataW.trod_lt m _ _ _ hm
  obtain ⟨a0, len0, cap0, rfl⟩ := okWide_slice Try.underlying34 (hval 0 34 v0 rfl rfl)
  obtain ⟨fu0, hf0⟩ := h0
  obtain ⟨a0', len0', cap0', vs0', hcs0, sl0, lf0, nl0⟩ := open_flat (ls := [22, 22, 22, 4]) (sz := 4) Try.underlying34 (by kernel_rfl) rfl (by kernel_rfl) (by decide) hf0
  simp only [Value.cells, List.cons.injEq, Value.slice.injEq, and_true] at hcs0
  obtain ⟨rfl, rfl, rfl⟩ := hcs0
  obtain ⟨a1, len1, cap1, rfl⟩ := okWide_slice Try.underlying34 (hval 1 34 v1 rfl rfl)
  obtain ⟨fu1, hf1⟩ := h1
  obtain ⟨a1', len1', cap1', vs1', hcs1, sl1, lf1, nl1⟩ := open_flat (ls := [22, 22, 22, 4]) (sz := 4) Try.underlying34 (by kernel_rfl) rfl (by kernel_rfl) (by decide) hf1
  simp only [Value.cells, List.cons.injEq, Value.slice.injEq, and_true] at hcs1
  obtain ⟨rfl, rfl, rfl⟩ := hcs1
  obtain ⟨cs2, rfl, hsz2⟩ : ∃ cs, v2 = .agg cs ∧ cs.size = 4 := by
    have := hval 2 24 v2 rfl rfl
    simp only [Value.okWide, Try.underlying24] at this
    obtain ⟨cs, h1, h2, _⟩ := this
    exact ⟨cs, h1, h2.trans (by kernel_rfl)⟩
  obtain ⟨fu2, hf2⟩ := h2
  obtain ⟨_, hl2⟩ := trod_leaves 12 _ _ _ _ [22, 22, 22, 4] hf2 (by kernel_rfl)
  obtain ⟨l2⟩ := cs2
  obtain ⟨c2_0, e2_0, L2_0⟩ := hl2 0 _ rfl
  obtain ⟨m0, rfl, wm0⟩ := Leaf.int Try.underlying22 L2_0
  obtain ⟨c2_1, e2_1, L2_1⟩ := hl2 1 _ rfl
  obtain ⟨m1, rfl, wm1⟩ := Leaf.int Try.underlying22 L2_1
  obtain ⟨c2_2, e2_2, L2_2⟩ := hl2 2 _ rfl
  obtain ⟨m2, rfl, wm2⟩ := Leaf.int Try.underlying22 L2_2
  obtain ⟨c2_3, e2_3, L2_3⟩ := hl2 3 _ rfl
  obtain ⟨m3, rfl⟩ := Leaf.bool Try.underlying4 L2_3
  obtain rfl : l2 = [.int .u32 m0, .int .u32 m1, .int .u32 m2, .bool m3] := by
    refine List.ext_getElem? fun i => ?_
    match i with
    | 0 => simpa [Value.cells] using e2_0
    | 1 => simpa [Value.cells] using e2_1
    | 2 => simpa [Value.cells] using e2_2
    | 3 => simpa [Value.cells] using e2_3
    | i + 4 => rw [List.getElem?_eq_none (by simp at hsz2; omega), List.getElem?_eq_none (by simp)]
  clear hA0 hval0
  refine (memberJoins_law ⟨m0, m1, m2, m3⟩ (mb_wf wm0 wm1) sl0 lf0 sl1 lf1).mono fun e W' ⟨he, bel⟩ => ?_
  subst he
  exact ⟨_, rfl, _, _, _, [], _, [], hW', trodAll_mk1 (shut_bool Try.underlying4 _), (trodAll_cons_mk (Below.trod laidOut (by kernel_rfl) (of_decide_eq_true (by kernel_rfl)) k0 bel lt0) (trodAll_cons_mk (Below.trod laidOut (by kernel_rfl) (of_decide_eq_true (by kernel_rfl)) k1 bel lt1) (trodAll_cons_mk (Below.trod laidOut (by kernel_rfl) (of_decide_eq_true (by kernel_rfl)) k2 bel lt2) trodAll_mk0))), rfl, bel.frame _, fun h => by cases h⟩

theorem over : Rows.memberJoinsRow.holds Try.pinned (OpenSpec.ofChange Rows.memberJoinsSpec) :=
  OpenClaim.holds_of_wide 7 Try.f7 rfl rfl rfl rfl rfl rfl rfl ⟨rfl, rfl, rfl, rfl, rfl⟩ rfl rfl rfl rfl rfl (by kernel_rfl) Try.func7 (by kernel_rfl)
    (of_decide_eq_true (by kernel_rfl)) (by unfold Func.isWrapper; first | (rw [if_pos (by decide +kernel)]; kernel_rfl) | (rw [if_neg (by decide +kernel)]; exact ⟨rfl, rfl⟩))
    (fun os started H enc _ => lifted os started H enc)

theorem proved : Rows.MemberJoinsSaid := over
#print axioms proved
end Go.Proofs.Yteakpppabgbpeaa.memberJoinsRow
