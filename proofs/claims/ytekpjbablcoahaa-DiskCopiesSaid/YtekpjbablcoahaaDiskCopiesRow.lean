/-
  DiskCopies: FOR EVERY INPUT IT RETURNS true, AND EACH ARGUMENT READS BEHIND THE CALL AS IT READ BEFORE. No condition.
-/
import Derived.Test.YtekpjbablcoahaaRows
import Derived.Test.YtekpjbablcoahaaDiskCopies
import Derived.Test.YtekpjbablcoahaaOpen
import Derived.SizedLaws
namespace Go.Proofs.Ytekpjbablcoahaa.diskCopiesRow
open Go.ChangeShapes Go.WideShapes Go.ChangeAt Go.RowKit
open Go.ChangeMaps (open_string shut_string)
set_option linter.unusedVariables false

theorem own : ownKnob Try.prog.godebug = none := by kernel_rfl
theorem laidOut : laidOutB Try.prog = true := by kernel_rfl

set_option maxRecDepth 100000 in
theorem lifted (os : Os) (started : os.Started) (H : Type) (enc : TypeId × Value → H) :
    ReturnsInHanded {} Try.checked os 5 .any (Rows.diskCopiesSpec.pre6 enc Try.prog Try.f5 Rows.diskCopiesRow.domain false) (Rows.diskCopiesSpec.post enc Try.prog Try.f5 false true false false) := by
  refine returnsInHanded_of_change_sized (C := Try.checked) own started (by kernel_rfl) Try.func5
    (ChangeSpec.witness6 (enc := enc) (C := Try.checked) false ⟨#[], #[.slice none 0 0, .agg #[.int .i64 0, .int .i64 0, .int .i64 0, .int .u8 0, .slice none 0 0, .int .i64 0, .int .i64 0, .int .i64 0, .int .u8 0, .slice none 0 0], .int .i64 0], []⟩ 8 (by kernel_rfl) (by kernel_rfl) (by kernel_rfl) (by kernel_rfl)) ?_
  intro W base args ds gs before hval0 hW hcnd hsz0 _
  have hsz : (DataW.weightsEach Try.prog (Try.f5.params.toList ++ Rows.diskCopiesSpec.plain.varTypes Try.prog) (ds ++ gs)).all (· ≤ reachBytes) = true := hsz0
  have hval : ∀ (j : Nat) t v, Try.f5.params[j]? = some t → args[j]? = some v → Value.okWide Try.prog W .any base t v := hval0
  have hW' := hW
  obtain ⟨p, q, hA0, hV, rfl, hfz, hnd⟩ := hW
  have hA : DataW.TrodAll enc Try.prog W 0 (fun _ => true) true Try.f5.params.toList args.toList ds p := hA0
  rw [Try.params5] at hA hval hsz
  obtain ⟨v0, vs0, d0, ds0, p0, q0, hargs, rfl, rfl, h0, r0⟩ := trodAll_cons hA
  obtain ⟨v1, vs1, d1, ds1, p1, q1, rfl, rfl, rfl, h1, r1⟩ := trodAll_cons r0
  obtain ⟨v2, vs2, d2, ds2, p2, q2, rfl, rfl, rfl, h2, r2⟩ := trodAll_cons r1
  obtain ⟨rfl, rfl, rfl⟩ := trodAll_nil r2
  obtain rfl : args = #[v0, v1, v2] := by cases args; simp_all
  obtain ⟨rfl, rfl⟩ := trodVars_none hV
  have k0 := h0
  have lt0 : ∀ x ∈ p0, x.block < W.heap.size := by obtain ⟨m, hm⟩ := k0; exact DataW.trod_lt m _ _ _ hm
  have k1 := h1
  have lt1 : ∀ x ∈ p1, x.block < W.heap.size := by obtain ⟨m, hm⟩ := k1; exact DataW.trod_lt m _ _ _ hm
  have k2 := h2
  have lt2 : ∀ x ∈ p2, x.block < W.heap.size := by obtain ⟨m, hm⟩ := k2; exact DataW.trod_lt m _ _ _ hm
  obtain ⟨a0, len0, cap0, rfl⟩ := okWide_slice Try.underlying43 (hval 0 43 v0 rfl rfl)
  obtain ⟨fu0, hf0⟩ := h0
  obtain ⟨a0', len0', cap0', vs0', hcs0, sl0, lf0, nl0⟩ := open_flat (ls := [3, 3, 3, 5, 23]) (sz := 5) Try.underlying43 (by kernel_rfl) rfl (by kernel_rfl) (by decide) hf0
  simp only [Value.cells, List.cons.injEq, Value.slice.injEq, and_true] at hcs0
  obtain ⟨rfl, rfl, rfl⟩ := hcs0
  have bd0 : len0 * 56 ≤ 140737488351232 := by
    rcases nl0 with ⟨_, h⟩ | ⟨es, sp, h, h'⟩
    · rw [h]; decide
    · have := sized_slice hsz (j := 0) (t := 43) (e := 54) rfl (congrArg some h) Try.underlying43
      rw [show Try.prog.bytesOf 54 = 56 by kernel_rfl] at this
      simp only [reachBytes] at this
      omega
  obtain ⟨cs1, rfl, hsz1⟩ : ∃ cs, v1 = .agg cs ∧ cs.size = 10 := by
    have := hval 1 57 v1 rfl rfl
    simp only [Value.okWide, Try.underlying57] at this
    obtain ⟨cs, h1, h2, _⟩ := this
    exact ⟨cs, h1, h2.trans (by kernel_rfl)⟩
  obtain ⟨fu1, hf1⟩ := h1
  obtain ⟨_, hl1⟩ := trod_leaves 12 _ _ _ _ [3, 3, 3, 5, 23, 3, 3, 3, 5, 23] hf1 (by kernel_rfl)
  obtain ⟨l1⟩ := cs1
  obtain ⟨c1_0, e1_0, L1_0⟩ := hl1 0 _ rfl
  obtain ⟨two0, rfl, wtwo0⟩ := Leaf.int Try.underlying3 L1_0
  obtain ⟨c1_1, e1_1, L1_1⟩ := hl1 1 _ rfl
  obtain ⟨two1, rfl, wtwo1⟩ := Leaf.int Try.underlying3 L1_1
  obtain ⟨c1_2, e1_2, L1_2⟩ := hl1 2 _ rfl
  obtain ⟨two2, rfl, wtwo2⟩ := Leaf.int Try.underlying3 L1_2
  obtain ⟨c1_3, e1_3, L1_3⟩ := hl1 3 _ rfl
  obtain ⟨two3, rfl, wtwo3⟩ := Leaf.int Try.underlying5 L1_3
  obtain ⟨c1_4, e1_4, L1_4⟩ := hl1 4 _ rfl
  obtain ⟨two4a, two4n, two4k, two4l, rfl, wtwo4⟩ := leaf_bools L1_4
  obtain ⟨c1_5, e1_5, L1_5⟩ := hl1 5 _ rfl
  obtain ⟨two5, rfl, wtwo5⟩ := Leaf.int Try.underlying3 L1_5
  obtain ⟨c1_6, e1_6, L1_6⟩ := hl1 6 _ rfl
  obtain ⟨two6, rfl, wtwo6⟩ := Leaf.int Try.underlying3 L1_6
  obtain ⟨c1_7, e1_7, L1_7⟩ := hl1 7 _ rfl
  obtain ⟨two7, rfl, wtwo7⟩ := Leaf.int Try.underlying3 L1_7
  obtain ⟨c1_8, e1_8, L1_8⟩ := hl1 8 _ rfl
  obtain ⟨two8, rfl, wtwo8⟩ := Leaf.int Try.underlying5 L1_8
  obtain ⟨c1_9, e1_9, L1_9⟩ := hl1 9 _ rfl
  obtain ⟨two9a, two9n, two9k, two9l, rfl, wtwo9⟩ := leaf_bools L1_9
  obtain rfl : l1 = [.int .i64 two0, .int .i64 two1, .int .i64 two2, .int .u8 two3, .slice two4a two4n two4k, .int .i64 two5, .int .i64 two6, .int .i64 two7, .int .u8 two8, .slice two9a two9n two9k] := by
    refine List.ext_getElem? fun i => ?_
    match i with
    | 0 => simpa [Value.cells] using e1_0
    | 1 => simpa [Value.cells] using e1_1
    | 2 => simpa [Value.cells] using e1_2
    | 3 => simpa [Value.cells] using e1_3
    | 4 => simpa [Value.cells] using e1_4
    | 5 => simpa [Value.cells] using e1_5
    | 6 => simpa [Value.cells] using e1_6
    | 7 => simpa [Value.cells] using e1_7
    | 8 => simpa [Value.cells] using e1_8
    | 9 => simpa [Value.cells] using e1_9
    | i + 10 => rw [List.getElem?_eq_none (by simp at hsz1; omega), List.getElem?_eq_none (by simp)]
  obtain ⟨many, rfl, _, _, wmany⟩ := open_int Try.underlying3 (hval 2 3 v2 rfl rfl) h2
  clear hA0 hval0
  obtain ⟨y0, rfl, hx0⟩ := acAt_mk (what := two0) wtwo1 wtwo2 wtwo3 wtwo4
  obtain ⟨y1, rfl, hx1⟩ := acAt_mk (what := two5) wtwo6 wtwo7 wtwo8 wtwo9
  refine (diskCopies_law ⟨two0, two1, two2, y0, two4a, two4n, two4k, two4l⟩ ⟨two5, two6, two7, y1, two9a, two9n, two9k, two9l⟩ many hx0 hx1 sl0 lf0 bd0).mono fun e W' ⟨he, bel⟩ => ?_
  subst he
  exact ⟨_, rfl, _, _, _, [], _, [], hW', trodAll_mk1 (shut_bool Try.underlying4 _), (trodAll_cons_mk (Below.trod laidOut (by kernel_rfl) (of_decide_eq_true (by kernel_rfl)) k0 bel lt0) (trodAll_cons_mk (Below.trod laidOut (by kernel_rfl) (of_decide_eq_true (by kernel_rfl)) k1 bel lt1) (trodAll_cons_mk (Below.trod laidOut (by kernel_rfl) (of_decide_eq_true (by kernel_rfl)) k2 bel lt2) trodAll_mk0))), rfl, bel.frame _, fun h => by cases h⟩

theorem over : Rows.diskCopiesRow.holds Try.pinned (OpenSpec.ofChange Rows.diskCopiesSpec) :=
  OpenClaim.holds_of_wide 5 Try.f5 rfl rfl rfl rfl rfl rfl rfl ⟨rfl, rfl, rfl, rfl, rfl⟩ rfl rfl rfl rfl rfl (by kernel_rfl) Try.func5 (by kernel_rfl)
    (of_decide_eq_true (by kernel_rfl)) (by unfold Func.isWrapper; first | (rw [if_pos (by decide +kernel)]; kernel_rfl) | (rw [if_neg (by decide +kernel)]; exact ⟨rfl, rfl⟩))
    (fun os started H enc _ => lifted os started H enc)

theorem proved : Rows.DiskCopiesSaid := over
#print axioms proved
end Go.Proofs.Ytekpjbablcoahaa.diskCopiesRow
