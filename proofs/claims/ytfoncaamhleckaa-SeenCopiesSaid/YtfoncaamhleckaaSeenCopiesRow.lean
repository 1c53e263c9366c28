/-
  SeenCopies: FOR EVERY INPUT IT RETURNS true, AND EACH ARGUMENT READS BEHIND THE CALL AS IT READ BEFORE. No condition.
-/
import Derived.Test.YtfoncaamhleckaaRows
import Derived.Test.YtfoncaamhleckaaSeenCopiesL
import Derived.Test.YtfoncaamhleckaaOpen
import Derived.SizedLaws
namespace Go.Proofs.Ytfoncaamhleckaa.seenCopiesRow
open Go.ChangeShapes Go.WideShapes Go.ChangeAt Go.RowKit
open Go.ChangeMaps (open_string shut_string)
set_option linter.unusedVariables false

theorem own : ownKnob Try.prog.godebug = none := by kernel_rfl
theorem laidOut : laidOutB Try.prog = true := by kernel_rfl

set_option maxRecDepth 100000 in
theorem lifted (os : Os) (started : os.Started) (H : Type) (enc : TypeId × Value → H) :
    ReturnsInHanded {} Try.checked os 5 .any (Rows.seenCopiesSpec.pre6 enc Try.prog Try.f5 Rows.seenCopiesRow.domain false) (Rows.seenCopiesSpec.post enc Try.prog Try.f5 false true false false) := by
  refine returnsInHanded_of_change (C := Try.checked) own started (by kernel_rfl) Try.func5
    (ChangeSpec.witness6 (enc := enc) (C := Try.checked) false ⟨#[], #[.int .i64 0, .slice none 0 0, .agg #[.int .i64 0, .int .u32 0, .int .u32 0, .int .u64 0, .int .u32 0, .bool false, .int .u8 0, .int .u64 0, .int .i64 0, .int .u32 0, .int .u32 0, .int .u64 0, .int .u32 0, .bool false, .int .u8 0, .int .u64 0]], []⟩ 8 (by kernel_rfl) (by kernel_rfl) (by kernel_rfl) (by kernel_rfl)) ?_
  intro W base args ds gs before hval0 hW hcnd hsz
  have hval : ∀ (j : Nat) t v, Try.f5.params[j]? = some t → args[j]? = some v → Value.okWide Try.prog W .any base t v := hval0
  have hW' := hW
  obtain ⟨p, q, hA0, hV, rfl, hfz, hnd⟩ := hW
  have hA : DataW.TrodAll enc Try.prog W 0 (fun _ => true) true Try.f5.params.toList args.toList ds p := hA0
  rw [Try.params5] at hA hval
  obtain ⟨v0, vs0, d0, ds0, p0, q0, hargs, rfl, rfl, h0, r0⟩ := trodAll_cons hA
  obtain ⟨v1, vs1, d1, ds1, p1, q1, rfl, rfl, rfl, h1, r1⟩ := trodAll_cons r0
  obtain ⟨v2, vs2, d2, ds2, p2, q2, rfl, rfl, rfl, h2, r2⟩ := trodAll_cons r1
  obtain ⟨rfl, rfl, rfl⟩ := trodAll_nil r2
  obtain rfl : args = #[v0, v1, v2] := by cases args; simp_all
  obtain ⟨rfl, rfl⟩ := trodVars_none hV
  have k0 := h0
  have lt0 : ∀ x ∈ p0, x.block < W.heap.size := by obtain ⟨m, hm⟩ := k0; exact DataW.trod_lt m _ _ _ hm
  have k1 := h1
  have lt1 : ∀ x ∈ p1, x.block < W.heap.size := by obtain ⟨m, hm⟩ := k1; exact DataW.trod_lt m _ _ _ hm
  have k2 := h2
  have lt2 : ∀ x ∈ p2, x.block < W.heap.size := by obtain ⟨m, hm⟩ := k2; exact DataW.trod_lt m _ _ _ hm
  obtain ⟨most, rfl, _, _, wmost⟩ := open_int Try.underlying3 (hval 0 3 v0 rfl rfl) h0
  obtain ⟨a1, len1, cap1, rfl⟩ := okWide_slice Try.underlying22 (hval 1 22 v1 rfl rfl)
  obtain ⟨fu1, hf1⟩ := h1
  obtain ⟨a1', len1', cap1', vs1', hcs1, sl1, lf1, nl1⟩ := open_flat (ls := [3, 32, 32, 23, 32, 4, 5, 23]) (sz := 8) Try.underlying22 (by kernel_rfl) rfl (by kernel_rfl) (by decide) hf1
  simp only [Value.cells, List.cons.injEq, Value.slice.injEq, and_true] at hcs1
  obtain ⟨rfl, rfl, rfl⟩ := hcs1
  obtain ⟨cs2, rfl, hsz2⟩ : ∃ cs, v2 = .agg cs ∧ cs.size = 16 := by
    have := hval 2 55 v2 rfl rfl
    simp only [Value.okWide, Try.underlying55] at this
    obtain ⟨cs, h1, h2, _⟩ := this
    exact ⟨cs, h1, h2.trans (by kernel_rfl)⟩
  obtain ⟨fu2, hf2⟩ := h2
  obtain ⟨_, hl2⟩ := trod_leaves 12 _ _ _ _ [3, 32, 32, 23, 32, 4, 5, 23, 3, 32, 32, 23, 32, 4, 5, 23] hf2 (by kernel_rfl)
  obtain ⟨l2⟩ := cs2
  obtain ⟨c2_0, e2_0, L2_0⟩ := hl2 0 _ rfl
  obtain ⟨two0, rfl, wtwo0⟩ := Leaf.int Try.underlying3 L2_0
  obtain ⟨c2_1, e2_1, L2_1⟩ := hl2 1 _ rfl
  obtain ⟨two1, rfl, wtwo1⟩ := Leaf.int Try.underlying32 L2_1
  obtain ⟨c2_2, e2_2, L2_2⟩ := hl2 2 _ rfl
  obtain ⟨two2, rfl, wtwo2⟩ := Leaf.int Try.underlying32 L2_2
  obtain ⟨c2_3, e2_3, L2_3⟩ := hl2 3 _ rfl
  obtain ⟨two3, rfl, wtwo3⟩ := Leaf.int Try.underlying23 L2_3
  obtain ⟨c2_4, e2_4, L2_4⟩ := hl2 4 _ rfl
  obtain ⟨two4, rfl, wtwo4⟩ := Leaf.int Try.underlying32 L2_4
  obtain ⟨c2_5, e2_5, L2_5⟩ := hl2 5 _ rfl
  obtain ⟨two5, rfl⟩ := Leaf.bool Try.underlying4 L2_5
  obtain ⟨c2_6, e2_6, L2_6⟩ := hl2 6 _ rfl
  obtain ⟨two6, rfl, wtwo6⟩ := Leaf.int Try.underlying5 L2_6
  obtain ⟨c2_7, e2_7, L2_7⟩ := hl2 7 _ rfl
  obtain ⟨two7, rfl, wtwo7⟩ := Leaf.int Try.underlying23 L2_7
  obtain ⟨c2_8, e2_8, L2_8⟩ := hl2 8 _ rfl
  obtain ⟨two8, rfl, wtwo8⟩ := Leaf.int Try.underlying3 L2_8
  obtain ⟨c2_9, e2_9, L2_9⟩ := hl2 9 _ rfl
  obtain ⟨two9, rfl, wtwo9⟩ := Leaf.int Try.underlying32 L2_9
  obtain ⟨c2_10, e2_10, L2_10⟩ := hl2 10 _ rfl
  obtain ⟨two10, rfl, wtwo10⟩ := Leaf.int Try.underlying32 L2_10
  obtain ⟨c2_11, e2_11, L2_11⟩ := hl2 11 _ rfl
  obtain ⟨two11, rfl, wtwo11⟩ := Leaf.int Try.underlying23 L2_11
  obtain ⟨c2_12, e2_12, L2_12⟩ := hl2 12 _ rfl
  obtain ⟨two12, rfl, wtwo12⟩ := Leaf.int Try.underlying32 L2_12
  obtain ⟨c2_13, e2_13, L2_13⟩ := hl2 13 _ rfl
  obtain ⟨two13, rfl⟩ := Leaf.bool Try.underlying4 L2_13
  obtain ⟨c2_14, e2_14, L2_14⟩ := hl2 14 _ rfl
  obtain ⟨two14, rfl, wtwo14⟩ := Leaf.int Try.underlying5 L2_14
  obtain ⟨c2_15, e2_15, L2_15⟩ := hl2 15 _ rfl
  obtain ⟨two15, rfl, wtwo15⟩ := Leaf.int Try.underlying23 L2_15
  obtain rfl : l2 = [.int .i64 two0, .int .u32 two1, .int .u32 two2, .int .u64 two3, .int .u32 two4, .bool two5, .int .u8 two6, .int .u64 two7, .int .i64 two8, .int .u32 two9, .int .u32 two10, .int .u64 two11, .int .u32 two12, .bool two13, .int .u8 two14, .int .u64 two15] := by
    refine List.ext_getElem? fun i => ?_
    match i with
    | 0 => simpa [Value.cells] using e2_0
    | 1 => simpa [Value.cells] using e2_1
    | 2 => simpa [Value.cells] using e2_2
    | 3 => simpa [Value.cells] using e2_3
    | 4 => simpa [Value.cells] using e2_4
    | 5 => simpa [Value.cells] using e2_5
    | 6 => simpa [Value.cells] using e2_6
    | 7 => simpa [Value.cells] using e2_7
    | 8 => simpa [Value.cells] using e2_8
    | 9 => simpa [Value.cells] using e2_9
    | 10 => simpa [Value.cells] using e2_10
    | 11 => simpa [Value.cells] using e2_11
    | 12 => simpa [Value.cells] using e2_12
    | 13 => simpa [Value.cells] using e2_13
    | 14 => simpa [Value.cells] using e2_14
    | 15 => simpa [Value.cells] using e2_15
    | i + 16 => rw [List.getElem?_eq_none (by simp at hsz2; omega), List.getElem?_eq_none (by simp)]
  clear hA0 hval0
  refine (seenCopiesL most ⟨two0, ⟨⟨two1, two2, two3, two4⟩, two5, two6⟩, two7⟩ ⟨two8, ⟨⟨two9, two10, two11, two12⟩, two13, two14⟩, two15⟩ ⟨⟨wtwo1, wtwo2, wtwo3, wtwo4⟩, wtwo6⟩ ⟨⟨wtwo9, wtwo10, wtwo11, wtwo12⟩, wtwo14⟩ W sl1 lf1).mono fun e W' ⟨he, bel⟩ => ?_
  subst he
  exact ⟨_, rfl, _, _, _, [], _, [], hW', trodAll_mk1 (shut_bool Try.underlying4 _), (trodAll_cons_mk (Below.trod laidOut (by kernel_rfl) (of_decide_eq_true (by kernel_rfl)) k0 bel lt0) (trodAll_cons_mk (Below.trod laidOut (by kernel_rfl) (of_decide_eq_true (by kernel_rfl)) k1 bel lt1) (trodAll_cons_mk (Below.trod laidOut (by kernel_rfl) (of_decide_eq_true (by kernel_rfl)) k2 bel lt2) trodAll_mk0))), rfl, bel.frame _, fun h => by cases h⟩

theorem over : Rows.seenCopiesRow.holds Try.pinned (OpenSpec.ofChange Rows.seenCopiesSpec) :=
  OpenClaim.holds_of_wide 5 Try.f5 rfl rfl rfl rfl rfl rfl rfl ⟨rfl, rfl, rfl, rfl, rfl⟩ rfl rfl rfl rfl rfl (by kernel_rfl) Try.func5 (by kernel_rfl)
    (of_decide_eq_true (by kernel_rfl)) (by unfold Func.isWrapper; first | (rw [if_pos (by decide +kernel)]; kernel_rfl) | (rw [if_neg (by decide +kernel)]; exact ⟨rfl, rfl⟩))
    (fun os started H enc _ => lifted os started H enc)

theorem proved : Rows.SeenCopiesSaid := over
#print axioms proved
end Go.Proofs.Ytfoncaamhleckaa.seenCopiesRow
