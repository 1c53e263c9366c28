/-
  NmRi: several texts in one (bundle.py).
-/
import Derived.Test.YtpkonagjnfphkaaGreatDoorPmB26
import Derived.Test.YtpkonagjnfphkaaGreatDoorPmB23
import Derived.Test.YtpkonagjnfphkaaGreatDoorPmB28
namespace Go.Proofs.YtpkonagjnfphkaaGreatDoor
open Go.RowKit Trc Cb
set_option linter.unusedSimpArgs false
set_option linter.unusedVariables false
set_option maxRecDepth 100000 in
theorem rUint_c (n : Nat) (w : World) : Calls Tryz.prog 105 #[.int .u64 n] w (Ret (rwV (rU n)) w) := by
  go_enter Tryz.func105, Tryz.ntmps105
  go_wp2
  refine bodyPost_ret (v := rwV (rU n)) (by simp [results, Tryz.results105, go_sem]) rfl ?_
  exact ⟨rfl, below_alloc _ _⟩
theorem rUint0 (w : World) : Calls Tryz.prog 105 #[.int .u64 0] w (Ret (rwV (rU 0)) w) := rUint_c 0 w
theorem rUint1 (w : World) : Calls Tryz.prog 105 #[.int .u64 1] w (Ret (rwV (rU 1)) w) := rUint_c 1 w
theorem rUint2 (w : World) : Calls Tryz.prog 105 #[.int .u64 2] w (Ret (rwV (rU 2)) w) := rUint_c 2 w
set_option maxRecDepth 100000 in
theorem rList_c (a : Option Addr) (n c : Nat) (w : World) : Calls Tryz.prog 28 #[.slice a n c] w (Ret (rwV (rL (.slice a n c))) w) := by
  go_enter Tryz.func28, Tryz.ntmps28
  go_wp2
  refine bodyPost_ret (v := rwV (rL (.slice a n c))) (by simp [results, Tryz.results28, go_sem]) rfl ?_
  exact ⟨rfl, below_alloc _ _⟩
set_option maxHeartbeats 2000000 in
set_option maxRecDepth 100000 in
theorem rItem_c (n m : Nat) (hn : n < 4294967296) (hm : m < 4294967296) (h : n = 0 → m = 0) (w : World) : Calls Tryz.prog 106 #[epV n m] w (MadeE (epI n m) w) := by
  obtain ⟨iI, hiI, hzI, hsI, _⟩ := infoIt
  have Q0 := RowAt.new w #[.int .u32 n, .int .u32 m] 25
  have Z0 := RowAt.new (w.alloc (.cells #[.int .u32 n, .int .u32 m] 25)) (rwC rZ).toArray 62
  have Q1 := Q0.alloc (.cells (rwC rZ).toArray 62)
  have hB1 : Below w.heap.size w ((w.alloc (.cells #[.int .u32 n, .int .u32 m] 25)).alloc (.cells (rwC rZ).toArray 62)) := (below_alloc w _).alloc (by simp) _
  simp only [World.size_alloc] at Z0
  by_cases h0 : n = 0
  · have HNB := Lib.hid (show decide (n = 0 ∧ m = 0) = true from decide_eq_true ⟨h0, h h0⟩)
    rw [show epI n m = lI [uI 1, uI 0] from if_pos h0]
    clear h0 h
    go_enter Tryz.func106, Tryz.ntmps106
    go_wp2_with (first
      | (go_at_call 129; refine (rNobody_c n m _).mono ?_; rw [HNB.out]; rintro en w1 ⟨rfl, hb1⟩)
      | (go_at_call 105; (with_reducible refine (rUint1 _).mono ?_); rintro en w1' ⟨rfl, hb1'⟩)
      | (go_at_call 105; (with_reducible refine (rUint0 _).mono ?_); rintro en w2 ⟨rfl, hb2⟩))
    have hqa := below_alloc w2 (.cells ([rU 1, rU 0].flatMap rwC).toArray 62)
    have HB2 := RowAt.new w2 ([rU 1, rU 0].flatMap rwC).toArray 62
    change Calls _ _ _ (w2.alloc (.cells ([rU 1, rU 0].flatMap rwC).toArray 62)) _
    obtain ⟨W2, hW2⟩ : ∃ x, w2.alloc (.cells ([rU 1, rU 0].flatMap rwC).toArray 62) = x := ⟨_, rfl⟩
    rw [hW2] at hqa HB2 ⊢
    refine (rList_c _ _ _ _).mono ?_
    rintro en w3 ⟨rfl, hb3⟩
    have hb12 := below_up hb1 (below_up hb1' hb2)
    have hb13 := below_up hb12 (below_up hqa hb3)
    have D3 := below_up hB1 hb13
    have Z3 := Z0.below hb13
    have B3 := HB2.below hb3
    have hlow : w.heap.size + 2 ≤ w2.heap.size := RowAt.lt (Z0.below hb12)
    clear hW2
    have z0 := RowAt.cell Z3 (i := 0) rfl
    have z1 := RowAt.cell Z3 (i := 1) rfl
    have z2 := RowAt.cell Z3 (i := 2) rfl
    have z3 := RowAt.cell Z3 (i := 3) rfl
    have z4 := RowAt.cell Z3 (i := 4) rfl
    have f0 := RowAt.fz Z3 0
    have f1 := RowAt.fz Z3 1
    have f2 := RowAt.fz Z3 2
    have f3 := RowAt.fz Z3 3
    have f4 := RowAt.fz Z3 4
    go_wp2
    obtain ⟨h5, hb5⟩ := set5 Z3 (.int .i64 4) (.int .u64 0) (.slice none 0 0) (.string ⟨#[]⟩) (.slice (some ⟨w2.heap.size, 0, none⟩) 2 2)
    have B5 := (hb5.same _ B3.lt (by omega)).trans B3
    obtain ⟨W5, hW5⟩ : ∃ x, (((((w3.setCell ⟨w.heap.size + 1, 0, none⟩ (.int .i64 4)).setCell ⟨w.heap.size + 1, 1, none⟩ (.int .u64 0)).setCell ⟨w.heap.size + 1, 2, none⟩ (.slice none 0 0)).setCell ⟨w.heap.size + 1, 3, none⟩ (.string ⟨#[]⟩)).setCell ⟨w.heap.size + 1, 4, none⟩ (.slice (some ⟨w2.heap.size, 0, none⟩) 2 2)) = x := ⟨_, rfl⟩
    rw [hW5] at h5 hb5 B5 ⊢
    have g0 := RowAt.cell h5 (i := 0) rfl
    have g1 := RowAt.cell h5 (i := 1) rfl
    have g2 := RowAt.cell h5 (i := 2) rfl
    have g3 := RowAt.cell h5 (i := 3) rfl
    have g4 := RowAt.cell h5 (i := 4) rfl
    refine bodyPost_ret (v := rwV (rL (.slice (some ⟨w2.heap.size, 0, none⟩) 2 2))) (by simp [results, Tryz.results106, go_sem, g0, g1, g2, g3, g4]) rfl ?_
    refine ⟨D3.trans (hb5.below (fun k e => by omega) D3.size), _, rfl, itL (its2 (itU _ _ 1 (by decide)) (itU _ _ 0 (by decide))) B5 ⟨by omega, RowAt.lt B5⟩ (by decide)⟩
  · have HNB := Lib.hid (show decide (n = 0 ∧ m = 0) = false from decide_eq_false (fun e => h0 e.1))
    rw [show epI n m = lI [uI 2, lI [uI n, uI m]] from if_neg h0]
    have hw1 : IntKind.u64.wrap (n : Int) = (n : Int) := by rw [IntKind.wrap_u64]; omega
    have hw2 : IntKind.u64.wrap (m : Int) = (m : Int) := by rw [IntKind.wrap_u64]; omega
    clear h0 h
    go_enter Tryz.func106, Tryz.ntmps106
    go_wp2_with (go_at_call 129; refine (rNobody_c n m _).mono ?_; rw [HNB.out]; rintro en w1 ⟨rfl, hb1⟩)
    refine wp_region_pt (fun k => k = w.heap.size + 1) (.q 1 (.q 2 (.q 3 (.q 5 (.q 6 (.q 7 (.c 0 (.c 4 (.c 8 (.c 9 (.c 10 (.c 11 (.c 12 (.c 13 .done)))))))))))))) (by kernel_rfl) (by kernel_rfl) (by kernel_rfl) (by decide) (fun _ _ d _ _ h => by cases d <;> exact h) (fun Wd hBd => ?_)
    try simp only [Act.put, List.getElem_toArray, List.getElem_cons_zero, List.getElem_cons_succ, List.setIfInBounds_toArray, List.set_cons_zero, List.set_cons_succ]
    have hBb := below_up hb1 hBd
    have B0 := below_up hB1 hBb
    have Zd := Z0.below hBb
    have k0 := RowAt.cell (Q1.below hBb) (i := 0) rfl
    have k1 := RowAt.cell (Q1.below hBb) (i := 1) rfl
    have hs0 : w.heap.size + 2 ≤ Wd.heap.size := RowAt.lt Zd
    refine pt_q (v := ?_) rfl (by rfl) ?_ ?_
    rotate_left
    · intro w' hBw'
      first | (go_simp; done) | (go_simp; with_reducible rfl)
    try simp only [Act.put, List.getElem_toArray, List.getElem_cons_zero, List.getElem_cons_succ, List.setIfInBounds_toArray, List.set_cons_zero, List.set_cons_succ]
    refine pt_q (v := ?_) rfl (by rfl) ?_ ?_
    rotate_left
    · intro w' hBw'
      have qL := hBw'.cell k0 (by omega)
      first | (go_simp; done) | (go_simp; with_reducible rfl)
    iterate 2
      try simp only [Act.put, List.getElem_toArray, List.getElem_cons_zero, List.getElem_cons_succ, List.setIfInBounds_toArray, List.set_cons_zero, List.set_cons_succ]
      refine pt_q (v := ?_) rfl (by rfl) ?_ ?_
      rotate_left
      · intro w' hBw'
        first | (go_simp; done) | (go_simp; with_reducible rfl)
    try simp only [Act.put, List.getElem_toArray, List.getElem_cons_zero, List.getElem_cons_succ, List.setIfInBounds_toArray, List.set_cons_zero, List.set_cons_succ]
    refine pt_q (v := ?_) rfl (by rfl) ?_ ?_
    rotate_left
    · intro w' hBw'
      have qL := hBw'.cell k1 (by omega)
      first | (go_simp; done) | (go_simp; with_reducible rfl)
    try simp only [Act.put, List.getElem_toArray, List.getElem_cons_zero, List.getElem_cons_succ, List.setIfInBounds_toArray, List.set_cons_zero, List.set_cons_succ]
    refine pt_q (v := ?_) rfl (by rfl) ?_ ?_
    rotate_left
    · intro w' hBw'
      first | (go_simp; done) | (go_simp; with_reducible rfl)
    try simp only [Act.put, List.getElem_toArray, List.getElem_cons_zero, List.getElem_cons_succ, List.setIfInBounds_toArray, List.set_cons_zero, List.set_cons_succ]
    refine pt_c ?_
    refine pt_step rfl (by rfl) (fun K hK => ?_)
    go_simp
    refine (rUint2 _).mono ?_
    rintro en w1' ⟨rfl, hb1'⟩
    refine hK.out _ _ (But.of_below hb1') ?_
    clear hK K
    try simp only [Act.put, List.getElem_toArray, List.getElem_cons_zero, List.getElem_cons_succ, List.setIfInBounds_toArray, List.set_cons_zero, List.set_cons_succ]
    refine pt_c ?_
    refine pt_step rfl (by rfl) (fun K hK => ?_)
    go_simp
    refine (rUint_c n _).mono ?_
    rintro en w2 ⟨rfl, hb2⟩
    refine hK.out _ _ (But.of_below hb2) ?_
    clear hK K
    try simp only [Act.put, List.getElem_toArray, List.getElem_cons_zero, List.getElem_cons_succ, List.setIfInBounds_toArray, List.set_cons_zero, List.set_cons_succ]
    refine pt_c ?_
    refine pt_step rfl (by rfl) (fun K hK => ?_)
    go_simp
    refine (rUint_c m _).mono ?_
    rintro en w3 ⟨rfl, hb3⟩
    refine hK.out _ _ (But.of_below hb3) ?_
    clear hK K
    try simp only [Act.put, List.getElem_toArray, List.getElem_cons_zero, List.getElem_cons_succ, List.setIfInBounds_toArray, List.set_cons_zero, List.set_cons_succ]
    refine pt_c ?_
    refine pt_buildSlice rfl (by rfl) 59 62 2 #[(0, .tmp 13), (1, .tmp 17)] rfl ([rU n, rU m].flatMap rwC).toArray iI _ Tryz.underlying59 hiI hzI (by rw [hsI]; decide) (by rw [hsI]; decide) [(0, rwV (rU n)), (1, rwV (rU m))] rfl (by rw [hsI]; exact filled2 _ _) ?_
    try simp only [Act.put, List.getElem_toArray, List.getElem_cons_zero, List.getElem_cons_succ, List.setIfInBounds_toArray, List.set_cons_zero, List.set_cons_succ]
    have I4 := RowAt.new w3 ([rU n, rU m].flatMap rwC).toArray 62
    have hq4 := below_alloc w3 (.cells ([rU n, rU m].flatMap rwC).toArray 62)
    obtain ⟨W4, hW4⟩ : ∃ x, w3.alloc (.cells ([rU n, rU m].flatMap rwC).toArray 62) = x := ⟨_, rfl⟩
    rw [hW4] at I4 hq4 ⊢
    refine pt_c ?_
    refine pt_step rfl (by rfl) (fun K hK => ?_)
    go_simp
    refine (rList_c _ _ _ _).mono ?_
    rintro en w6 ⟨rfl, hb6⟩
    refine hK.out _ _ (But.of_below hb6) ?_
    clear hK K
    try simp only [Act.put, List.getElem_toArray, List.getElem_cons_zero, List.getElem_cons_succ, List.setIfInBounds_toArray, List.set_cons_zero, List.set_cons_succ]
    refine pt_c ?_
    refine pt_buildSlice rfl (by rfl) 59 62 2 #[(0, .tmp 9), (1, .tmp 19)] rfl ([rU 2, rL (.slice (some ⟨w3.heap.size, 0, none⟩) 2 2)].flatMap rwC).toArray iI _ Tryz.underlying59 hiI hzI (by rw [hsI]; decide) (by rw [hsI]; decide) [(0, rwV (rU 2)), (1, rwV (rL (.slice (some ⟨w3.heap.size, 0, none⟩) 2 2)))] rfl (by rw [hsI]; exact filled2 _ _) ?_
    try simp only [Act.put, List.getElem_toArray, List.getElem_cons_zero, List.getElem_cons_succ, List.setIfInBounds_toArray, List.set_cons_zero, List.set_cons_succ]
    have O7 := RowAt.new w6 ([rU 2, rL (.slice (some ⟨w3.heap.size, 0, none⟩) 2 2)].flatMap rwC).toArray 62
    have hq7 := below_alloc w6 (.cells ([rU 2, rL (.slice (some ⟨w3.heap.size, 0, none⟩) 2 2)].flatMap rwC).toArray 62)
    obtain ⟨W7, hW7⟩ : ∃ x, w6.alloc (.cells ([rU 2, rL (.slice (some ⟨w3.heap.size, 0, none⟩) 2 2)].flatMap rwC).toArray 62) = x := ⟨_, rfl⟩
    rw [hW7] at O7 hq7 ⊢
    refine pt_c ?_
    refine pt_step rfl (by rfl) (fun K hK => ?_)
    go_simp
    refine (rList_c _ _ _ _).mono ?_
    rintro en w8 ⟨rfl, hb8⟩
    refine hK.out _ _ (But.of_below hb8) ?_
    clear hK K
    try simp only [Act.put, List.getElem_toArray, List.getElem_cons_zero, List.getElem_cons_succ, List.setIfInBounds_toArray, List.set_cons_zero, List.set_cons_succ]
    have hs3 : w.heap.size + 2 ≤ w3.heap.size := RowAt.lt (Zd.below (below_up hb1' (below_up hb2 hb3)))
    have hs6 : w3.heap.size < w6.heap.size := RowAt.lt (RowAt.below I4 hb6)
    have h18 := below_up hb1' (below_up hb2 (below_up hb3 (below_up hq4 (below_up hb6 (below_up hq7 hb8)))))
    have Z8 := Zd.below h18
    have D8 := below_up B0 h18
    have I8 := RowAt.below I4 (below_up hb6 (below_up hq7 hb8))
    have O8 := RowAt.below O7 hb8
    refine pt_c ?_
    refine pt_put_row rfl (by rfl) 62 _ _ rfl (w.heap.size + 1) (rwC (rL (.slice (some ⟨w6.heap.size, 0, none⟩) 2 2))) rfl rfl Z8 rfl (by kernel_rfl) rfl rfl ?_
    try simp only [Act.put, List.getElem_toArray, List.getElem_cons_zero, List.getElem_cons_succ, List.setIfInBounds_toArray, List.set_cons_zero, List.set_cons_succ]
    intro w9 R9 hb9
    have D9 := D8.trans (hb9.below (fun k e => by omega) D8.size)
    have I9 := (hb9.same _ (RowAt.lt I8) (by omega)).trans I8
    have O9 := (hb9.same _ (RowAt.lt O8) (by omega)).trans O8
    refine pt_done ?_
    go_wp2
    have g0 := RowAt.cell R9 (i := 0) rfl
    have g1 := RowAt.cell R9 (i := 1) rfl
    have g2 := RowAt.cell R9 (i := 2) rfl
    have g3 := RowAt.cell R9 (i := 3) rfl
    have g4 := RowAt.cell R9 (i := 4) rfl
    refine bodyPost_ret (v := rwV (rL (.slice (some ⟨w6.heap.size, 0, none⟩) 2 2))) (by simp [results, Tryz.results106, go_sem, g0, g1, g2, g3, g4]) rfl ?_
    refine ⟨D9, _, rfl, itL (its2 (itU _ _ 2 (by decide)) (itL (its2 (itU _ _ n (by omega)) (itU _ _ m (by omega))) I9 ⟨by omega, RowAt.lt I9⟩ (by show 2 ≤ 1000; decide))) O9 ⟨by omega, RowAt.lt O9⟩ (by show 2 ≤ 1000; decide)⟩
end Go.Proofs.YtpkonagjnfphkaaGreatDoor
