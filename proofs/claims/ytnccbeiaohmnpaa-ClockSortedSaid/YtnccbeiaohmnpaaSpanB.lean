/-
  Sorted's closures; SortStableFunc, Clone at spans.
-/
import Derived.Test.YtnccbeiaohmnpaaSpanA
import Derived.Test.YtnccbeiaohmnpaaClockE
namespace Go.Proofs.Ytnccbeiaohmnpaa
open Go.RowKit Srt
set_option linter.unusedSimpArgs false
set_option linter.unusedVariables false

theorem enters_s1 : Enters Try.prog 38 := enters_of Try.func38 (by kernel_rfl) rfl
theorem enters_s2 : Enters Try.prog 40 := enters_of Try.func40 (by kernel_rfl) rfl
set_option maxRecDepth 100000 in
theorem sorted1_c (p : Int × Int) (w : World) : Calls Try.prog 38 #[spV p] w (Ret (.bool (!Clk.rightB p.1 p.2)) w) := by
  obtain ⟨a, b⟩ := p
  have hr := fun w => right_c a b w
  obtain ⟨rb, hrb⟩ : ∃ rb, Clk.rightB a b = rb := ⟨_, rfl⟩
  rw [hrb] at hr ⊢
  have HR := Lib.hid hr
  clear hr hrb
  have hb := below_alloc w (.cells #[.int .u64 a, .int .u64 b] 24)
  go_enter Try.func38, Try.ntmps38
  go_wp2_with (go_at_call 9; refine (HR.out _).mono ?_; rintro en w1 ⟨rfl, hb1⟩)
  go_ret
  exact ⟨rfl, below_up hb hb1⟩
set_option maxHeartbeats 1000000 in
set_option maxRecDepth 100000 in
theorem sorted2_c (p q : Int × Int) (w : World) : Calls Try.prog 40 #[spV p, spV q] w (Ret (.int .i64 (spCmp p q)) w) := by
  obtain ⟨a, b⟩ := p
  obtain ⟨c, d⟩ := q
  obtain ⟨x, hx⟩ : ∃ x, cmp3 a c = x := ⟨_, rfl⟩
  obtain ⟨y, hy⟩ : ∃ y, cmp3 b d = y := ⟨_, rfl⟩
  have hc1 := fun w => cmpU_c a c w
  have hc2 := fun w => cmpU_c b d w
  rw [hx] at hc1
  rw [hy] at hc2
  rw [show spCmp (a, b) (c, d) = if x = 0 then y else x by unfold spCmp; simp only; rw [hx, hy]]
  have ho := fun b w h => or2_c x y (b := b) w h
  obtain ⟨r, hr⟩ : ∃ r, (if x = 0 then y else x) = r := ⟨_, rfl⟩
  rw [hr] at ho ⊢
  have HO := Lib.hid ho
  clear ho hr
  have H1 := Lib.hid hc1
  have H2 := Lib.hid hc2
  clear hc1 hc2 hx hy
  have hb2 : Below w.heap.size w ((w.alloc (.cells #[.int .u64 a, .int .u64 b] 24)).alloc (.cells #[.int .u64 c, .int .u64 d] 24)) := (below_alloc w _).alloc (by simp) _
  have X := (RowAt.new w #[.int .u64 a, .int .u64 b] 24).alloc (.cells #[.int .u64 c, .int .u64 d] 24)
  have Y := RowAt.new (w.alloc (.cells #[.int .u64 a, .int .u64 b] 24)) #[.int .u64 c, .int .u64 d] 24
  rw [World.size_alloc] at Y
  go_enter Try.func40, Try.ntmps40
  go_wp2
  refine wp_region_pt (fun _ => False) (.q 0 (.q 1 (.q 2 (.q 3 (.q 5 (.q 6 (.q 7 (.q 8 (.c 4 (.c 9 (.c 10 (.c 11 (.q 12 .done))))))))))))) (by kernel_rfl) (by kernel_rfl) (by kernel_rfl) (by decide) (fun _ _ d _ _ h => by cases d <;> exact h) (fun Wd hBd => ?_)
  try simp only [Act.put, List.getElem_toArray, List.getElem_cons_zero, List.getElem_cons_succ, List.setIfInBounds_toArray, List.set_cons_zero, List.set_cons_succ]
  have X1 := X.below hBd
  have Y1 := Y.below hBd
  have qt : ∀ w', But (fun _ => False) Wd w' → Below Wd.heap.size Wd w' := fun w' h => h.below (fun k e => e.elim) (Nat.le_refl _)
  have qa : ∀ w', But (fun _ => False) Wd w' → w'.cell? ⟨w.heap.size, 0, none⟩ = some (.int .u64 a) := fun w' h => cell_up (qt w' h) (X1.cell (i := 0) rfl)
  have qb : ∀ w', But (fun _ => False) Wd w' → w'.cell? ⟨w.heap.size, 1, none⟩ = some (.int .u64 b) := fun w' h => cell_up (qt w' h) (X1.cell (i := 1) rfl)
  have qc : ∀ w', But (fun _ => False) Wd w' → w'.cell? ⟨w.heap.size + 1, 0, none⟩ = some (.int .u64 c) := fun w' h => cell_up (qt w' h) (Y1.cell (i := 0) rfl)
  have qd : ∀ w', But (fun _ => False) Wd w' → w'.cell? ⟨w.heap.size + 1, 1, none⟩ = some (.int .u64 d) := fun w' h => cell_up (qt w' h) (Y1.cell (i := 1) rfl)
  refine pt_q (v := ?_) rfl (by rfl) ?_ ?_
  rotate_left
  · intro w' hBw'
    first | (go_simp; done) | (go_simp; with_reducible rfl)
  try simp only [Act.put, List.getElem_toArray, List.getElem_cons_zero, List.getElem_cons_succ, List.setIfInBounds_toArray, List.set_cons_zero, List.set_cons_succ]
  refine pt_q (v := ?_) rfl (by rfl) ?_ ?_
  rotate_left
  · intro w' hBw'
    first | (go_simp; done) | (go_simp; with_reducible rfl)
  try simp only [Act.put, List.getElem_toArray, List.getElem_cons_zero, List.getElem_cons_succ, List.setIfInBounds_toArray, List.set_cons_zero, List.set_cons_succ]
  refine pt_q (v := ?_) rfl (by rfl) ?_ ?_
  rotate_left
  · intro w' hBw'
    first | (go_simp; done) | (go_simp; with_reducible rfl)
  try simp only [Act.put, List.getElem_toArray, List.getElem_cons_zero, List.getElem_cons_succ, List.setIfInBounds_toArray, List.set_cons_zero, List.set_cons_succ]
  refine pt_q (v := ?_) rfl (by rfl) ?_ ?_
  rotate_left
  · intro w' hBw'
    first | (go_simp; done) | (go_simp; with_reducible rfl)
  try simp only [Act.put, List.getElem_toArray, List.getElem_cons_zero, List.getElem_cons_succ, List.setIfInBounds_toArray, List.set_cons_zero, List.set_cons_succ]
  refine pt_q (v := ?_) rfl (by rfl) ?_ ?_
  rotate_left
  · intro w' hBw'
    first | (go_simp; done) | (go_simp; with_reducible rfl)
  try simp only [Act.put, List.getElem_toArray, List.getElem_cons_zero, List.getElem_cons_succ, List.setIfInBounds_toArray, List.set_cons_zero, List.set_cons_succ]
  refine pt_q (v := ?_) rfl (by rfl) ?_ ?_
  rotate_left
  · intro w' hBw'
    first | (go_simp; done) | (go_simp; with_reducible rfl)
  try simp only [Act.put, List.getElem_toArray, List.getElem_cons_zero, List.getElem_cons_succ, List.setIfInBounds_toArray, List.set_cons_zero, List.set_cons_succ]
  refine pt_q (v := ?_) rfl (by rfl) ?_ ?_
  rotate_left
  · intro w' hBw'
    first | (go_simp; done) | (go_simp; with_reducible rfl)
  try simp only [Act.put, List.getElem_toArray, List.getElem_cons_zero, List.getElem_cons_succ, List.setIfInBounds_toArray, List.set_cons_zero, List.set_cons_succ]
  refine pt_q (v := ?_) rfl (by rfl) ?_ ?_
  rotate_left
  · intro w' hBw'
    first | (go_simp; done) | (go_simp; with_reducible rfl)
  try simp only [Act.put, List.getElem_toArray, List.getElem_cons_zero, List.getElem_cons_succ, List.setIfInBounds_toArray, List.set_cons_zero, List.set_cons_succ]
  refine pt_c ?_
  refine pt_step rfl (by rfl) (fun K hK => ?_)
  go_simp
  refine (H1.out _).mono ?_
  rintro en w3 ⟨rfl, rfl⟩
  refine hK.out _ _ (But.refl _ _) ?_
  clear hK K
  try simp only [Act.put, List.getElem_toArray, List.getElem_cons_zero, List.getElem_cons_succ, List.setIfInBounds_toArray, List.set_cons_zero, List.set_cons_succ]
  refine pt_c ?_
  refine pt_step rfl (by rfl) (fun K hK => ?_)
  go_simp
  refine (H2.out _).mono ?_
  rintro en w3 ⟨rfl, rfl⟩
  refine hK.out _ _ (But.refl _ _) ?_
  clear hK K
  try simp only [Act.put, List.getElem_toArray, List.getElem_cons_zero, List.getElem_cons_succ, List.setIfInBounds_toArray, List.set_cons_zero, List.set_cons_succ]
  refine pt_c ?_
  refine pt_step rfl (by rfl) (fun K hK => ?_)
  go_simp
  refine hK.out _ _ (But.alloc _ _) ?_
  clear hK K
  try simp only [Act.put, List.getElem_toArray, List.getElem_cons_zero, List.getElem_cons_succ, List.setIfInBounds_toArray, List.set_cons_zero, List.set_cons_succ]
  refine pt_c ?_
  refine pt_step rfl (by rfl) (fun K hK => ?_)
  go_simp
  refine (HO.out _ _ (RowAt.new Wd #[.int .i64 x, .int .i64 y] 3)).mono ?_
  rintro en w4 ⟨rfl, hb4⟩
  refine hK.out _ _ (But.of_below hb4) ?_
  clear hK K
  try simp only [Act.put, List.getElem_toArray, List.getElem_cons_zero, List.getElem_cons_succ, List.setIfInBounds_toArray, List.set_cons_zero, List.set_cons_succ]
  refine pt_q (v := ?_) rfl (by rfl) ?_ ?_
  rotate_left
  · intro w' hBw'
    first | (go_simp; done) | (go_simp; with_reducible rfl)
  try simp only [Act.put, List.getElem_toArray, List.getElem_cons_zero, List.getElem_cons_succ, List.setIfInBounds_toArray, List.set_cons_zero, List.set_cons_succ]
  refine pt_done ?_
  go_wp2
  go_ret
  exact ⟨rfl, below_up (below_up hb2 hBd) (below_up (below_alloc Wd _) hb4)⟩
theorem spans_flat : ∀ l : List (Int × Int), Clk.spans l = l.flatMap spC
  | [] => rfl
  | x :: l => by rw [List.flatMap_cons, Clk.spans, spans_flat l]; rfl
set_option maxRecDepth 100000 in
theorem sortS_c {L : List (Int × Int)} {n b c : Nat} {J : List Value} (hn : L.length = n) (hb : n ≤ 100000000) (w : World) (h : Arr w b 24 J spC L) :
    Calls Try.prog 39 #[.slice (some ⟨b, 0, none⟩) n c, .func (.func 40) #[] #[]] w fun en w' => en = .returned (.tuple #[]) ∧ ∃ W, W.Perm L ∧ Sorted (ltc spCmp) W ∧ Arr w' b 24 J spC W ∧ But (· = b) w w' := by
  have hs := stable_c (cells := spC) (cf := spCmp) (fun _ => rfl) (fun _ => rfl) spTO hn hb (b := b) (c := c) (J := J) 40 #[] enters_s2 (fun x y w1 => Calls.cast rfl (sorted2_c x y w1)) w h
  have HS := Lib.hid hs
  clear hs h
  go_enter Try.func39, Try.ntmps39
  go_wp2_with (go_at_call 51; refine HS.out.mono ?_; rintro en w1 ⟨rfl, W, p1, s1, hA, hB⟩)
  go_end0
  exact ⟨rfl, W, p1, s1, hA, hB⟩
end Go.Proofs.Ytnccbeiaohmnpaa
