/-
  ContactCopies: FOR EVERY INPUT IT RETURNS true, AND EACH ARGUMENT READS BEHIND THE CALL AS IT READ BEFORE. No condition.
-/
import Derived.Test.YtgbpdchdcbnoaaaRows
import Derived.Test.YtgbpdchdcbnoaaaContactCopies
import Derived.Test.YtgbpdchdcbnoaaaOpen
import Derived.SizedLaws
namespace Go.Proofs.Ytgbpdchdcbnoaaa.contactCopiesRow
open Go.ChangeShapes Go.WideShapes Go.ChangeAt Go.RowKit
open Go.ChangeMaps (open_string shut_string)
set_option linter.unusedVariables false

theorem own : ownKnob Try.prog.godebug = none := by kernel_rfl
theorem laidOut : laidOutB Try.prog = true := by kernel_rfl

set_option maxRecDepth 100000 in
theorem lifted (os : Os) (started : os.Started) (H : Type) (enc : TypeId × Value → H) :
    ReturnsInHanded {} Try.checked os 7 .any (Rows.contactCopiesSpec.pre6 enc Try.prog Try.f7 Rows.contactCopiesRow.domain false) (Rows.contactCopiesSpec.post enc Try.prog Try.f7 false true false false) := by
  refine returnsInHanded_of_change (C := Try.checked) own started (by kernel_rfl) Try.func7
    (ChangeSpec.witness6 (enc := enc) (C := Try.checked) false ⟨#[], #[.slice none 0 0, .agg #[.int .i64 0, .int .i64 0, .int .u32 0, .int .u32 0, .int .u64 0, .int .u64 0, .int .u64 0, .int .u64 0, .int .i64 0, .int .i64 0, .int .u32 0, .int .u32 0, .int .u64 0, .int .u64 0, .int .u64 0, .int .u64 0]], []⟩ 8 (by kernel_rfl) (by kernel_rfl) (by kernel_rfl) (by kernel_rfl)) ?_
  intro W base args ds gs before hval0 hW hcnd hsz
  have hval : ∀ (j : Nat) t v, Try.f7.params[j]? = some t → args[j]? = some v → Value.okWide Try.prog W .any base t v := hval0
  have hW' := hW
  obtain ⟨p, q, hA0, hV, rfl, hfz, hnd⟩ := hW
  have hA : DataW.TrodAll enc Try.prog W 0 (fun _ => true) true Try.f7.params.toList args.toList ds p := hA0
  rw [Try.params7] at hA hval
  obtain ⟨v0, vs0, d0, ds0, p0, q0, hargs, rfl, rfl, h0, r0⟩ := trodAll_cons hA
  obtain ⟨v1, vs1, d1, ds1, p1, q1, rfl, rfl, rfl, h1, r1⟩ := trodAll_cons r0
  obtain ⟨rfl, rfl, rfl⟩ := trodAll_nil r1
  obtain rfl : args = #[v0, v1] := by cases args; simp_all
  obtain ⟨rfl, rfl⟩ := trodVars_none hV
  have k0 := h0
  have lt0 : ∀ x ∈ p0, x.block < W.heap.size := by obtain ⟨m, hm⟩ := k0; exact DataW.trod_lt m _ _ _ hm
  have k1 := h1
  have lt1 : ∀ x ∈ p1, x.block < W.heap.size := by obtain ⟨m, hm⟩ := k1; exact DataW.trod_lt m _ _ _ hm
  obtain ⟨a0, len0, cap0, rfl⟩ := okWide_slice Try.underlying45 (hval 0 45 v0 rfl rfl)
  obtain ⟨fu0, hf0⟩ := h0
  obtain ⟨a0', len0', cap0', vs0', hcs0, sl0, lf0, nl0⟩ := open_flat (ls := [3, 3, 22, 22, 23, 23, 23, 23]) (sz := 8) Try.underlying45 (by kernel_rfl) rfl (by kernel_rfl) (by decide) hf0
  simp only [Value.cells, List.cons.injEq, Value.slice.injEq, and_true] at hcs0
  obtain ⟨rfl, rfl, rfl⟩ := hcs0
  obtain ⟨cs1, rfl, hsz1⟩ : ∃ cs, v1 = .agg cs ∧ cs.size = 16 := by
    have := hval 1 54 v1 rfl rfl
    simp only [Value.okWide, Try.underlying54] at this
    obtain ⟨cs, h1, h2, _⟩ := this
    exact ⟨cs, h1, h2.trans (by kernel_rfl)⟩
  obtain ⟨fu1, hf1⟩ := h1
  obtain ⟨_, hl1⟩ := trod_leaves 12 _ _ _ _ [3, 3, 22, 22, 23, 23, 23, 23, 3, 3, 22, 22, 23, 23, 23, 23] hf1 (by kernel_rfl)
  obtain ⟨l1⟩ := cs1
  obtain ⟨c1_0, e1_0, L1_0⟩ := hl1 0 _ rfl
  obtain ⟨two0, rfl, wtwo0⟩ := Leaf.int Try.underlying3 L1_0
  obtain ⟨c1_1, e1_1, L1_1⟩ := hl1 1 _ rfl
  obtain ⟨two1, rfl, wtwo1⟩ := Leaf.int Try.underlying3 L1_1
  obtain ⟨c1_2, e1_2, L1_2⟩ := hl1 2 _ rfl
  obtain ⟨two2, rfl, wtwo2⟩ := Leaf.int Try.underlying22 L1_2
  obtain ⟨c1_3, e1_3, L1_3⟩ := hl1 3 _ rfl
  obtain ⟨two3, rfl, wtwo3⟩ := Leaf.int Try.underlying22 L1_3
  obtain ⟨c1_4, e1_4, L1_4⟩ := hl1 4 _ rfl
  obtain ⟨two4, rfl, wtwo4⟩ := Leaf.int Try.underlying23 L1_4
  obtain ⟨c1_5, e1_5, L1_5⟩ := hl1 5 _ rfl
  obtain ⟨two5, rfl, wtwo5⟩ := Leaf.int Try.underlying23 L1_5
  obtain ⟨c1_6, e1_6, L1_6⟩ := hl1 6 _ rfl
  obtain ⟨two6, rfl, wtwo6⟩ := Leaf.int Try.underlying23 L1_6
  obtain ⟨c1_7, e1_7, L1_7⟩ := hl1 7 _ rfl
  obtain ⟨two7, rfl, wtwo7⟩ := Leaf.int Try.underlying23 L1_7
  obtain ⟨c1_8, e1_8, L1_8⟩ := hl1 8 _ rfl
  obtain ⟨two8, rfl, wtwo8⟩ := Leaf.int Try.underlying3 L1_8
  obtain ⟨c1_9, e1_9, L1_9⟩ := hl1 9 _ rfl
  obtain ⟨two9, rfl, wtwo9⟩ := Leaf.int Try.underlying3 L1_9
  obtain ⟨c1_10, e1_10, L1_10⟩ := hl1 10 _ rfl
  obtain ⟨two10, rfl, wtwo10⟩ := Leaf.int Try.underlying22 L1_10
  obtain ⟨c1_11, e1_11, L1_11⟩ := hl1 11 _ rfl
  obtain ⟨two11, rfl, wtwo11⟩ := Leaf.int Try.underlying22 L1_11
  obtain ⟨c1_12, e1_12, L1_12⟩ := hl1 12 _ rfl
  obtain ⟨two12, rfl, wtwo12⟩ := Leaf.int Try.underlying23 L1_12
  obtain ⟨c1_13, e1_13, L1_13⟩ := hl1 13 _ rfl
  obtain ⟨two13, rfl, wtwo13⟩ := Leaf.int Try.underlying23 L1_13
  obtain ⟨c1_14, e1_14, L1_14⟩ := hl1 14 _ rfl
  obtain ⟨two14, rfl, wtwo14⟩ := Leaf.int Try.underlying23 L1_14
  obtain ⟨c1_15, e1_15, L1_15⟩ := hl1 15 _ rfl
  obtain ⟨two15, rfl, wtwo15⟩ := Leaf.int Try.underlying23 L1_15
  obtain rfl : l1 = [.int .i64 two0, .int .i64 two1, .int .u32 two2, .int .u32 two3, .int .u64 two4, .int .u64 two5, .int .u64 two6, .int .u64 two7, .int .i64 two8, .int .i64 two9, .int .u32 two10, .int .u32 two11, .int .u64 two12, .int .u64 two13, .int .u64 two14, .int .u64 two15] := by
    refine List.ext_getElem? fun i => ?_
    match i with
    | 0 => simpa [Value.cells] using e1_0
    | 1 => simpa [Value.cells] using e1_1
    | 2 => simpa [Value.cells] using e1_2
    | 3 => simpa [Value.cells] using e1_3
    | 4 => simpa [Value.cells] using e1_4
    | 5 => simpa [Value.cells] using e1_5
    | 6 => simpa [Value.cells] using e1_6
    | 7 => simpa [Value.cells] using e1_7
    | 8 => simpa [Value.cells] using e1_8
    | 9 => simpa [Value.cells] using e1_9
    | 10 => simpa [Value.cells] using e1_10
    | 11 => simpa [Value.cells] using e1_11
    | 12 => simpa [Value.cells] using e1_12
    | 13 => simpa [Value.cells] using e1_13
    | 14 => simpa [Value.cells] using e1_14
    | 15 => simpa [Value.cells] using e1_15
    | i + 16 => rw [List.getElem?_eq_none (by simp at hsz1; omega), List.getElem?_eq_none (by simp)]
  clear hA0 hval0
  refine (contactCopies_law ⟨two0, two1, ⟨two2, two3, two4, two5, two6⟩, two7⟩ ⟨two8, two9, ⟨two10, two11, two12, two13, two14⟩, two15⟩ (ct_wf wtwo2 wtwo3 wtwo4 wtwo5 wtwo6) (ct_wf wtwo10 wtwo11 wtwo12 wtwo13 wtwo14) sl0 lf0).mono fun e W' ⟨he, bel⟩ => ?_
  subst he
  exact ⟨_, rfl, _, _, _, [], _, [], hW', trodAll_mk1 (shut_bool Try.underlying4 _), (trodAll_cons_mk (Below.trod laidOut (by kernel_rfl) (of_decide_eq_true (by kernel_rfl)) k0 bel lt0) (trodAll_cons_mk (Below.trod laidOut (by kernel_rfl) (of_decide_eq_true (by kernel_rfl)) k1 bel lt1) trodAll_mk0)), rfl, bel.frame _, fun h => by cases h⟩

theorem over : Rows.contactCopiesRow.holds Try.pinned (OpenSpec.ofChange Rows.contactCopiesSpec) :=
  OpenClaim.holds_of_wide 7 Try.f7 rfl rfl rfl rfl rfl rfl rfl ⟨rfl, rfl, rfl, rfl, rfl⟩ rfl rfl rfl rfl rfl (by kernel_rfl) Try.func7 (by kernel_rfl)
    (of_decide_eq_true (by kernel_rfl)) (by unfold Func.isWrapper; first | (rw [if_pos (by decide +kernel)]; kernel_rfl) | (rw [if_neg (by decide +kernel)]; exact ⟨rfl, rfl⟩))
    (fun os started H enc _ => lifted os started H enc)

theorem proved : Rows.ContactCopiesSaid := over
#print axioms proved
end Go.Proofs.Ytgbpdchdcbnoaaa.contactCopiesRow
