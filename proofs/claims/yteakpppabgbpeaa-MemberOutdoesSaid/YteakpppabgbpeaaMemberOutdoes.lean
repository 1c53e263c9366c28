/-
  MemberOutdoes: the walk.
-/
import Derived.Test.YteakpppabgbpeaaMemL
namespace Go.Proofs.Yteakpppabgbpeaa
open Go.RowKit Mem
set_option linter.unusedSimpArgs false
set_option linter.unusedVariables false

theorem outB_self (a : Mb) : outB a a = false := by unfold outB; simp
set_option maxHeartbeats 4000000 in
set_option maxRecDepth 100000 in
theorem memberOutdoes_law (a b : Mb) (w : World) : Calls Try.prog 3 #[mbV a, mbV b] w (Ret (.bool true) w) := by
  have hA0 := (RowAt.new w (mbC a).toArray 24).below (below_alloc _ (.cells (mbC b).toArray 24))
  have hB0 := RowAt.new (w.alloc (.cells (mbC a).toArray 24)) (mbC b).toArray 24
  rw [World.size_alloc] at hB0
  have HB0 := Lib.hid (show Below w.heap.size w ((w.alloc (.cells (mbC a).toArray 24)).alloc (.cells (mbC b).toArray 24)) from (below_alloc w _).alloc (by simp) _)
  have haa := fun w => mOut_c a a w
  rw [outB_self] at haa
  have o1 := fun w => mOut_c a b w
  have o2 := fun w => refOut_c a b w
  have o3 := fun w => mOut_c b a w
  have o4 := fun w => refOut_c b a w
  generalize outB a b = x at *
  generalize outB b a = y at *
  go_enter Try.func3, Try.ntmps3
  go_wp2
  refine wp_region_pi [(0, false), (1, false), (3, false), (4, false), (2, true), (5, true), (6, false), (7, false), (8, false), (9, false), (11, false), (12, false), (10, true), (13, true), (14, false), (15, false), (16, false), (17, false), (18, false), (19, true), (20, false), (21, false), (22, false), (23, true), (24, false), (25, false)] (by kernel_rfl) (by kernel_rfl) (by kernel_rfl) rfl (fun _ _ d _ _ h => by cases d <;> exact h) (fun Wd hBd => ?_)
  try simp only [Act.put, List.getElem_toArray, List.getElem_cons_zero, List.getElem_cons_succ, List.setIfInBounds_toArray, List.set_cons_zero, List.set_cons_succ]
  have hA := hA0.below hBd
  have hB := hB0.below hBd
  have HBk := Lib.hid (below_up HB0.out hBd)
  clear hA0 hB0
  refine pi_load rfl (by rfl) 24 (.tmp 2) rfl w.heap.size 0 rfl (mbC a) _ hA.range Try.underlying24 rfl (by kernel_rfl) ?_
  try simp only [Act.put, List.getElem_toArray, List.getElem_cons_zero, List.getElem_cons_succ, List.setIfInBounds_toArray, List.set_cons_zero, List.set_cons_succ]
  refine pi_load rfl (by rfl) 24 (.tmp 3) rfl (w.heap.size + 1) 0 rfl (mbC b) _ hB.range Try.underlying24 rfl (by kernel_rfl) ?_
  try simp only [Act.put, List.getElem_toArray, List.getElem_cons_zero, List.getElem_cons_succ, List.setIfInBounds_toArray, List.set_cons_zero, List.set_cons_succ]
  refine pi_load rfl (by rfl) 24 (.tmp 2) rfl w.heap.size 0 rfl (mbC a) _ hA.range Try.underlying24 rfl (by kernel_rfl) ?_
  try simp only [Act.put, List.getElem_toArray, List.getElem_cons_zero, List.getElem_cons_succ, List.setIfInBounds_toArray, List.set_cons_zero, List.set_cons_succ]
  refine pi_load rfl (by rfl) 24 (.tmp 3) rfl (w.heap.size + 1) 0 rfl (mbC b) _ hB.range Try.underlying24 rfl (by kernel_rfl) ?_
  try simp only [Act.put, List.getElem_toArray, List.getElem_cons_zero, List.getElem_cons_succ, List.setIfInBounds_toArray, List.set_cons_zero, List.set_cons_succ]
  refine pi_c rfl (by rfl) (fun K hK => ?_)
  go_simp
  refine (o1 _).mono ?_
  rintro en w4 ⟨rfl, hb⟩
  replace hA := hA.below hb
  replace hB := hB.below hb
  replace HBk := Lib.hid (below_up HBk.out hb)
  refine hK.out _ _ hb ?_
  clear hK K
  try simp only [Act.put, List.getElem_toArray, List.getElem_cons_zero, List.getElem_cons_succ, List.setIfInBounds_toArray, List.set_cons_zero, List.set_cons_succ]
  clear hb
  refine pi_c rfl (by rfl) (fun K hK => ?_)
  go_simp
  refine (o2 _).mono ?_
  rintro en w4 ⟨rfl, hb⟩
  replace hA := hA.below hb
  replace hB := hB.below hb
  replace HBk := Lib.hid (below_up HBk.out hb)
  refine hK.out _ _ hb ?_
  clear hK K
  try simp only [Act.put, List.getElem_toArray, List.getElem_cons_zero, List.getElem_cons_succ, List.setIfInBounds_toArray, List.set_cons_zero, List.set_cons_succ]
  clear hb
  refine pi_q (v := ?_) rfl (by rfl) ?_ ?_
  rotate_left
  · intro w' hBw'
    first | (go_simp; done) | (go_simp; with_reducible rfl)
  try simp only [Act.put, List.getElem_toArray, List.getElem_cons_zero, List.getElem_cons_succ, List.setIfInBounds_toArray, List.set_cons_zero, List.set_cons_succ]
  refine pi_q (v := ?_) rfl (by rfl) ?_ ?_
  rotate_left
  · intro w' hBw'
    first | (go_simp; done) | (go_simp; with_reducible rfl)
  try simp only [Act.put, List.getElem_toArray, List.getElem_cons_zero, List.getElem_cons_succ, List.setIfInBounds_toArray, List.set_cons_zero, List.set_cons_succ]
  refine pi_load rfl (by rfl) 24 (.tmp 3) rfl (w.heap.size + 1) 0 rfl (mbC b) _ hB.range Try.underlying24 rfl (by kernel_rfl) ?_
  try simp only [Act.put, List.getElem_toArray, List.getElem_cons_zero, List.getElem_cons_succ, List.setIfInBounds_toArray, List.set_cons_zero, List.set_cons_succ]
  refine pi_load rfl (by rfl) 24 (.tmp 2) rfl w.heap.size 0 rfl (mbC a) _ hA.range Try.underlying24 rfl (by kernel_rfl) ?_
  try simp only [Act.put, List.getElem_toArray, List.getElem_cons_zero, List.getElem_cons_succ, List.setIfInBounds_toArray, List.set_cons_zero, List.set_cons_succ]
  refine pi_load rfl (by rfl) 24 (.tmp 3) rfl (w.heap.size + 1) 0 rfl (mbC b) _ hB.range Try.underlying24 rfl (by kernel_rfl) ?_
  try simp only [Act.put, List.getElem_toArray, List.getElem_cons_zero, List.getElem_cons_succ, List.setIfInBounds_toArray, List.set_cons_zero, List.set_cons_succ]
  refine pi_load rfl (by rfl) 24 (.tmp 2) rfl w.heap.size 0 rfl (mbC a) _ hA.range Try.underlying24 rfl (by kernel_rfl) ?_
  try simp only [Act.put, List.getElem_toArray, List.getElem_cons_zero, List.getElem_cons_succ, List.setIfInBounds_toArray, List.set_cons_zero, List.set_cons_succ]
  refine pi_c rfl (by rfl) (fun K hK => ?_)
  go_simp
  refine (o3 _).mono ?_
  rintro en w4 ⟨rfl, hb⟩
  replace hA := hA.below hb
  replace hB := hB.below hb
  replace HBk := Lib.hid (below_up HBk.out hb)
  refine hK.out _ _ hb ?_
  clear hK K
  try simp only [Act.put, List.getElem_toArray, List.getElem_cons_zero, List.getElem_cons_succ, List.setIfInBounds_toArray, List.set_cons_zero, List.set_cons_succ]
  clear hb
  refine pi_c rfl (by rfl) (fun K hK => ?_)
  go_simp
  refine (o4 _).mono ?_
  rintro en w4 ⟨rfl, hb⟩
  replace hA := hA.below hb
  replace hB := hB.below hb
  replace HBk := Lib.hid (below_up HBk.out hb)
  refine hK.out _ _ hb ?_
  clear hK K
  try simp only [Act.put, List.getElem_toArray, List.getElem_cons_zero, List.getElem_cons_succ, List.setIfInBounds_toArray, List.set_cons_zero, List.set_cons_succ]
  clear hb
  refine pi_q (v := ?_) rfl (by rfl) ?_ ?_
  rotate_left
  · intro w' hBw'
    first | (go_simp; done) | (go_simp; with_reducible rfl)
  try simp only [Act.put, List.getElem_toArray, List.getElem_cons_zero, List.getElem_cons_succ, List.setIfInBounds_toArray, List.set_cons_zero, List.set_cons_succ]
  refine pi_q (v := ?_) rfl (by rfl) ?_ ?_
  rotate_left
  · intro w' hBw'
    first | (go_simp; done) | (go_simp; with_reducible rfl)
  try simp only [Act.put, List.getElem_toArray, List.getElem_cons_zero, List.getElem_cons_succ, List.setIfInBounds_toArray, List.set_cons_zero, List.set_cons_succ]
  refine pi_q (v := ?_) rfl (by rfl) ?_ ?_
  rotate_left
  · intro w' hBw'
    first | (go_simp; done) | (go_simp; with_reducible rfl)
  try simp only [Act.put, List.getElem_toArray, List.getElem_cons_zero, List.getElem_cons_succ, List.setIfInBounds_toArray, List.set_cons_zero, List.set_cons_succ]
  refine pi_load rfl (by rfl) 24 (.tmp 2) rfl w.heap.size 0 rfl (mbC a) _ hA.range Try.underlying24 rfl (by kernel_rfl) ?_
  try simp only [Act.put, List.getElem_toArray, List.getElem_cons_zero, List.getElem_cons_succ, List.setIfInBounds_toArray, List.set_cons_zero, List.set_cons_succ]
  refine pi_load rfl (by rfl) 24 (.tmp 2) rfl w.heap.size 0 rfl (mbC a) _ hA.range Try.underlying24 rfl (by kernel_rfl) ?_
  try simp only [Act.put, List.getElem_toArray, List.getElem_cons_zero, List.getElem_cons_succ, List.setIfInBounds_toArray, List.set_cons_zero, List.set_cons_succ]
  refine pi_c rfl (by rfl) (fun K hK => ?_)
  go_simp
  refine (haa _).mono ?_
  rintro en w4 ⟨rfl, hb⟩
  replace hA := hA.below hb
  replace hB := hB.below hb
  replace HBk := Lib.hid (below_up HBk.out hb)
  refine hK.out _ _ hb ?_
  clear hK K
  try simp only [Act.put, List.getElem_toArray, List.getElem_cons_zero, List.getElem_cons_succ, List.setIfInBounds_toArray, List.set_cons_zero, List.set_cons_succ]
  clear hb
  refine pi_q (v := ?_) rfl (by rfl) ?_ ?_
  rotate_left
  · intro w' hBw'
    first | (go_simp; done) | (go_simp; with_reducible rfl)
  try simp only [Act.put, List.getElem_toArray, List.getElem_cons_zero, List.getElem_cons_succ, List.setIfInBounds_toArray, List.set_cons_zero, List.set_cons_succ]
  refine pi_q (v := ?_) rfl (by rfl) ?_ ?_
  rotate_left
  · intro w' hBw'
    first | (go_simp; done) | (go_simp; with_reducible rfl)
  try simp only [Act.put, List.getElem_toArray, List.getElem_cons_zero, List.getElem_cons_succ, List.setIfInBounds_toArray, List.set_cons_zero, List.set_cons_succ]
  refine pi_q (v := ?_) rfl (by rfl) ?_ ?_
  rotate_left
  · intro w' hBw'
    first | (go_simp; done) | (go_simp; with_reducible rfl)
  try simp only [Act.put, List.getElem_toArray, List.getElem_cons_zero, List.getElem_cons_succ, List.setIfInBounds_toArray, List.set_cons_zero, List.set_cons_succ]
  refine pi_c rfl (by rfl) (fun K hK => ?_)
  go_simp
  refine (works_c _).mono ?_
  rintro en w4 ⟨rfl, hb⟩
  replace hA := hA.below hb
  replace hB := hB.below hb
  replace HBk := Lib.hid (below_up HBk.out hb)
  refine hK.out _ _ hb ?_
  clear hK K
  try simp only [Act.put, List.getElem_toArray, List.getElem_cons_zero, List.getElem_cons_succ, List.setIfInBounds_toArray, List.set_cons_zero, List.set_cons_succ]
  clear hb
  refine pi_q (v := ?_) rfl (by rfl) ?_ ?_
  rotate_left
  · intro w' hBw'
    first | (go_simp; done) | (go_simp; with_reducible rfl)
  try simp only [Act.put, List.getElem_toArray, List.getElem_cons_zero, List.getElem_cons_succ, List.setIfInBounds_toArray, List.set_cons_zero, List.set_cons_succ]
  refine pi_q (v := ?_) rfl (by rfl) ?_ ?_
  rotate_left
  · intro w' hBw'
    first | (go_simp; done) | (go_simp; with_reducible rfl)
  try simp only [Act.put, List.getElem_toArray, List.getElem_cons_zero, List.getElem_cons_succ, List.setIfInBounds_toArray, List.set_cons_zero, List.set_cons_succ]
  refine pi_nil ?_
  go_wp2
  go_ret
  exact ⟨rfl, HBk.out⟩
end Go.Proofs.Yteakpppabgbpeaa
