/-
  NmRef: several texts in one (bundle.py).
-/
import Derived.Test.YtpfgepgjpnekdaaDoorNmO28
namespace Go.Proofs.YtpfgepgjpnekdaaDoor
open Go.RowKit Srt Trc
set_option linter.unusedSimpArgs false
set_option linter.unusedVariables false

set_option maxRecDepth 100000 in
theorem rord_c (a b : Int) (w : World) : Calls Tryd.prog 76 #[.int .u64 a, .int .u64 b] w fun en w' => en = .returned (.int .i64 (cmp3 a b)) ∧ w = w' := by
  by_cases h1 : a < b
  · rw [show cmp3 a b = -1 from if_pos h1]
    have d1 : decide (a < b) = true := decide_eq_true h1
    go_enter Tryd.func76, Tryd.ntmps76
    go_wp2
    go_ret
    exact ⟨rfl, rfl⟩
  · have d1 : decide (a < b) = false := decide_eq_false h1
    by_cases h2 : b < a
    · rw [show cmp3 a b = 1 from (if_neg h1).trans (if_pos h2)]
      have d2 : decide (b < a) = true := decide_eq_true h2
      go_enter Tryd.func76, Tryd.ntmps76
      go_wp2
      go_ret
      exact ⟨rfl, rfl⟩
    · rw [show cmp3 a b = 0 from (if_neg h1).trans (if_neg h2)]
      have d2 : decide (b < a) = false := decide_eq_false h2
      go_enter Tryd.func76, Tryd.ntmps76
      go_wp2
      go_ret
      exact ⟨rfl, rfl⟩
set_option maxHeartbeats 1000000 in
set_option maxRecDepth 100000 in
theorem rOrder_c (x y : Nm) (hx : x.wf) (hy : y.wf) (w : World) : Calls Tryd.prog 34 #[nmV x, nmV y] w (Ret (.int .i64 (nmCmp x y)) w) := by
  have hcv : nmCmp x y = cmpL [cmp3 x.node y.node, cmp3 x.service y.service, cmp3 x.time y.time, cmp3 x.seq y.seq] := rfl
  rw [hcv]
  clear hcv
  obtain ⟨a, b, c, d⟩ := x
  obtain ⟨a', b', c', d'⟩ := y
  obtain ⟨h1, h2, h3, h4⟩ := nm_bounds hx
  obtain ⟨h1', h2', h3', h4'⟩ := nm_bounds hy
  clear hx hy
  simp only at h1 h2 h3 h4 h1' h2' h3' h4'
  have w1 : IntKind.u64.wrap a = a := by rw [IntKind.wrap_u64]; omega
  have w2 : IntKind.u64.wrap b = b := by rw [IntKind.wrap_u64]; omega
  have w4 : IntKind.u64.wrap d = d := by rw [IntKind.wrap_u64]; omega
  have w1' : IntKind.u64.wrap a' = a' := by rw [IntKind.wrap_u64]; omega
  have w2' : IntKind.u64.wrap b' = b' := by rw [IntKind.wrap_u64]; omega
  have w4' : IntKind.u64.wrap d' = d' := by rw [IntKind.wrap_u64]; omega
  have k1 := fun w => rord_c a a' w
  have k2 := fun w => rord_c b b' w
  have k3 := fun w => rord_c c c' w
  have k4 := fun w => rord_c d d' w
  simp only
  generalize cmp3 a a' = c1 at *
  generalize cmp3 b b' = c2 at *
  generalize cmp3 c c' = c3 at *
  generalize cmp3 d d' = c4 at *
  have K1 := Lib.hid k1
  have K2 := Lib.hid k2
  have K3 := Lib.hid k3
  have K4 := Lib.hid k4
  clear k1 k2 k3 k4 h1 h2 h3 h4 h1' h2' h3' h4'
  have hb2 : Below w.heap.size w ((w.alloc (.cells (nmC ⟨a, b, c, d⟩).toArray 31)).alloc (.cells (nmC ⟨a', b', c', d'⟩).toArray 31)) := (below_alloc w _).alloc (by simp) _
  have X := (RowAt.new w (nmC ⟨a, b, c, d⟩).toArray 31).alloc (.cells (nmC ⟨a', b', c', d'⟩).toArray 31)
  have Y := RowAt.new (w.alloc (.cells (nmC ⟨a, b, c, d⟩).toArray 31)) (nmC ⟨a', b', c', d'⟩).toArray 31
  rw [World.size_alloc] at Y
  go_enter Tryd.func34, Tryd.ntmps34
  go_wp2
  refine wp_region_pt (fun _ => False) (.q 0 (.q 1 (.q 2 (.q 3 (.q 4 (.q 5 (.q 6 (.q 7 (.q 9 (.q 10 (.q 11 (.q 12 (.q 13 (.q 14 (.q 15 (.q 16 (.q 18 (.q 19 (.q 20 (.q 21 (.q 23 (.q 24 (.q 25 (.q 26 (.q 27 (.q 28 (.c 8 (.c 17 (.c 22 (.c 29 (.c 30 (.q 31 .done)))))))))))))))))))))))))))))))) (by kernel_rfl) (by kernel_rfl) (by kernel_rfl) (by decide) (fun _ _ d _ _ h => by cases d <;> exact h) (fun Wd hBd => ?_)
  try simp only [Act.put, List.getElem_toArray, List.getElem_cons_zero, List.getElem_cons_succ, List.setIfInBounds_toArray, List.set_cons_zero, List.set_cons_succ]
  have X1 := X.below hBd
  have Y1 := Y.below hBd
  have qt : ∀ w', But (fun _ => False) Wd w' → Below Wd.heap.size Wd w' := fun w' h => h.below (fun k e => e.elim) (Nat.le_refl _)
  have qx0 : ∀ w', But (fun _ => False) Wd w' → w'.cell? ⟨w.heap.size, 0, none⟩ = some (.int .u32 a) := fun w' h => cell_up (qt w' h) (X1.cell (i := 0) rfl)
  have qy0 : ∀ w', But (fun _ => False) Wd w' → w'.cell? ⟨w.heap.size + 1, 0, none⟩ = some (.int .u32 a') := fun w' h => cell_up (qt w' h) (Y1.cell (i := 0) rfl)
  have qx1 : ∀ w', But (fun _ => False) Wd w' → w'.cell? ⟨w.heap.size, 1, none⟩ = some (.int .u32 b) := fun w' h => cell_up (qt w' h) (X1.cell (i := 1) rfl)
  have qy1 : ∀ w', But (fun _ => False) Wd w' → w'.cell? ⟨w.heap.size + 1, 1, none⟩ = some (.int .u32 b') := fun w' h => cell_up (qt w' h) (Y1.cell (i := 1) rfl)
  have qx2 : ∀ w', But (fun _ => False) Wd w' → w'.cell? ⟨w.heap.size, 2, none⟩ = some (.int .u64 c) := fun w' h => cell_up (qt w' h) (X1.cell (i := 2) rfl)
  have qy2 : ∀ w', But (fun _ => False) Wd w' → w'.cell? ⟨w.heap.size + 1, 2, none⟩ = some (.int .u64 c') := fun w' h => cell_up (qt w' h) (Y1.cell (i := 2) rfl)
  have qx3 : ∀ w', But (fun _ => False) Wd w' → w'.cell? ⟨w.heap.size, 3, none⟩ = some (.int .u32 d) := fun w' h => cell_up (qt w' h) (X1.cell (i := 3) rfl)
  have qy3 : ∀ w', But (fun _ => False) Wd w' → w'.cell? ⟨w.heap.size + 1, 3, none⟩ = some (.int .u32 d') := fun w' h => cell_up (qt w' h) (Y1.cell (i := 3) rfl)
  refine pt_q (v := ?_) rfl (by rfl) ?_ ?_
  rotate_left
  · intro w' hBw'
    first | (go_simp; done) | (go_simp; with_reducible rfl)
  try simp only [Act.put, List.getElem_toArray, List.getElem_cons_zero, List.getElem_cons_succ, List.setIfInBounds_toArray, List.set_cons_zero, List.set_cons_succ]
  refine pt_q (v := ?_) rfl (by rfl) ?_ ?_
  rotate_left
  · intro w' hBw'
    first | (go_simp; done) | (go_simp; with_reducible rfl)
  try simp only [Act.put, List.getElem_toArray, List.getElem_cons_zero, List.getElem_cons_succ, List.setIfInBounds_toArray, List.set_cons_zero, List.set_cons_succ]
  refine pt_q (v := ?_) rfl (by rfl) ?_ ?_
  rotate_left
  · intro w' hBw'
    first | (go_simp; done) | (go_simp; with_reducible rfl)
  try simp only [Act.put, List.getElem_toArray, List.getElem_cons_zero, List.getElem_cons_succ, List.setIfInBounds_toArray, List.set_cons_zero, List.set_cons_succ]
  refine pt_q (v := ?_) rfl (by rfl) ?_ ?_
  rotate_left
  · intro w' hBw'
    first | (go_simp; done) | (go_simp; with_reducible rfl)
  try simp only [Act.put, List.getElem_toArray, List.getElem_cons_zero, List.getElem_cons_succ, List.setIfInBounds_toArray, List.set_cons_zero, List.set_cons_succ]
  refine pt_q (v := ?_) rfl (by rfl) ?_ ?_
  rotate_left
  · intro w' hBw'
    first | (go_simp; done) | (go_simp; with_reducible rfl)
  try simp only [Act.put, List.getElem_toArray, List.getElem_cons_zero, List.getElem_cons_succ, List.setIfInBounds_toArray, List.set_cons_zero, List.set_cons_succ]
  refine pt_q (v := ?_) rfl (by rfl) ?_ ?_
  rotate_left
  · intro w' hBw'
    first | (go_simp; done) | (go_simp; with_reducible rfl)
  try simp only [Act.put, List.getElem_toArray, List.getElem_cons_zero, List.getElem_cons_succ, List.setIfInBounds_toArray, List.set_cons_zero, List.set_cons_succ]
  refine pt_q (v := ?_) rfl (by rfl) ?_ ?_
  rotate_left
  · intro w' hBw'
    first | (go_simp; done) | (go_simp; with_reducible rfl)
  try simp only [Act.put, List.getElem_toArray, List.getElem_cons_zero, List.getElem_cons_succ, List.setIfInBounds_toArray, List.set_cons_zero, List.set_cons_succ]
  refine pt_q (v := ?_) rfl (by rfl) ?_ ?_
  rotate_left
  · intro w' hBw'
    first | (go_simp; done) | (go_simp; with_reducible rfl)
  try simp only [Act.put, List.getElem_toArray, List.getElem_cons_zero, List.getElem_cons_succ, List.setIfInBounds_toArray, List.set_cons_zero, List.set_cons_succ]
  refine pt_q (v := ?_) rfl (by rfl) ?_ ?_
  rotate_left
  · intro w' hBw'
    first | (go_simp; done) | (go_simp; with_reducible rfl)
  try simp only [Act.put, List.getElem_toArray, List.getElem_cons_zero, List.getElem_cons_succ, List.setIfInBounds_toArray, List.set_cons_zero, List.set_cons_succ]
  refine pt_q (v := ?_) rfl (by rfl) ?_ ?_
  rotate_left
  · intro w' hBw'
    first | (go_simp; done) | (go_simp; with_reducible rfl)
  try simp only [Act.put, List.getElem_toArray, List.getElem_cons_zero, List.getElem_cons_succ, List.setIfInBounds_toArray, List.set_cons_zero, List.set_cons_succ]
  refine pt_q (v := ?_) rfl (by rfl) ?_ ?_
  rotate_left
  · intro w' hBw'
    first | (go_simp; done) | (go_simp; with_reducible rfl)
  try simp only [Act.put, List.getElem_toArray, List.getElem_cons_zero, List.getElem_cons_succ, List.setIfInBounds_toArray, List.set_cons_zero, List.set_cons_succ]
  refine pt_q (v := ?_) rfl (by rfl) ?_ ?_
  rotate_left
  · intro w' hBw'
    first | (go_simp; done) | (go_simp; with_reducible rfl)
  try simp only [Act.put, List.getElem_toArray, List.getElem_cons_zero, List.getElem_cons_succ, List.setIfInBounds_toArray, List.set_cons_zero, List.set_cons_succ]
  refine pt_q (v := ?_) rfl (by rfl) ?_ ?_
  rotate_left
  · intro w' hBw'
    first | (go_simp; done) | (go_simp; with_reducible rfl)
  try simp only [Act.put, List.getElem_toArray, List.getElem_cons_zero, List.getElem_cons_succ, List.setIfInBounds_toArray, List.set_cons_zero, List.set_cons_succ]
  refine pt_q (v := ?_) rfl (by rfl) ?_ ?_
  rotate_left
  · intro w' hBw'
    first | (go_simp; done) | (go_simp; with_reducible rfl)
  try simp only [Act.put, List.getElem_toArray, List.getElem_cons_zero, List.getElem_cons_succ, List.setIfInBounds_toArray, List.set_cons_zero, List.set_cons_succ]
  refine pt_q (v := ?_) rfl (by rfl) ?_ ?_
  rotate_left
  · intro w' hBw'
    first | (go_simp; done) | (go_simp; with_reducible rfl)
  try simp only [Act.put, List.getElem_toArray, List.getElem_cons_zero, List.getElem_cons_succ, List.setIfInBounds_toArray, List.set_cons_zero, List.set_cons_succ]
  refine pt_q (v := ?_) rfl (by rfl) ?_ ?_
  rotate_left
  · intro w' hBw'
    first | (go_simp; done) | (go_simp; with_reducible rfl)
  try simp only [Act.put, List.getElem_toArray, List.getElem_cons_zero, List.getElem_cons_succ, List.setIfInBounds_toArray, List.set_cons_zero, List.set_cons_succ]
  refine pt_q (v := ?_) rfl (by rfl) ?_ ?_
  rotate_left
  · intro w' hBw'
    first | (go_simp; done) | (go_simp; with_reducible rfl)
  try simp only [Act.put, List.getElem_toArray, List.getElem_cons_zero, List.getElem_cons_succ, List.setIfInBounds_toArray, List.set_cons_zero, List.set_cons_succ]
  refine pt_q (v := ?_) rfl (by rfl) ?_ ?_
  rotate_left
  · intro w' hBw'
    first | (go_simp; done) | (go_simp; with_reducible rfl)
  try simp only [Act.put, List.getElem_toArray, List.getElem_cons_zero, List.getElem_cons_succ, List.setIfInBounds_toArray, List.set_cons_zero, List.set_cons_succ]
  refine pt_q (v := ?_) rfl (by rfl) ?_ ?_
  rotate_left
  · intro w' hBw'
    first | (go_simp; done) | (go_simp; with_reducible rfl)
  try simp only [Act.put, List.getElem_toArray, List.getElem_cons_zero, List.getElem_cons_succ, List.setIfInBounds_toArray, List.set_cons_zero, List.set_cons_succ]
  refine pt_q (v := ?_) rfl (by rfl) ?_ ?_
  rotate_left
  · intro w' hBw'
    first | (go_simp; done) | (go_simp; with_reducible rfl)
  try simp only [Act.put, List.getElem_toArray, List.getElem_cons_zero, List.getElem_cons_succ, List.setIfInBounds_toArray, List.set_cons_zero, List.set_cons_succ]
  refine pt_q (v := ?_) rfl (by rfl) ?_ ?_
  rotate_left
  · intro w' hBw'
    first | (go_simp; done) | (go_simp; with_reducible rfl)
  try simp only [Act.put, List.getElem_toArray, List.getElem_cons_zero, List.getElem_cons_succ, List.setIfInBounds_toArray, List.set_cons_zero, List.set_cons_succ]
  refine pt_q (v := ?_) rfl (by rfl) ?_ ?_
  rotate_left
  · intro w' hBw'
    first | (go_simp; done) | (go_simp; with_reducible rfl)
  try simp only [Act.put, List.getElem_toArray, List.getElem_cons_zero, List.getElem_cons_succ, List.setIfInBounds_toArray, List.set_cons_zero, List.set_cons_succ]
  refine pt_q (v := ?_) rfl (by rfl) ?_ ?_
  rotate_left
  · intro w' hBw'
    first | (go_simp; done) | (go_simp; with_reducible rfl)
  try simp only [Act.put, List.getElem_toArray, List.getElem_cons_zero, List.getElem_cons_succ, List.setIfInBounds_toArray, List.set_cons_zero, List.set_cons_succ]
  refine pt_q (v := ?_) rfl (by rfl) ?_ ?_
  rotate_left
  · intro w' hBw'
    first | (go_simp; done) | (go_simp; with_reducible rfl)
  try simp only [Act.put, List.getElem_toArray, List.getElem_cons_zero, List.getElem_cons_succ, List.setIfInBounds_toArray, List.set_cons_zero, List.set_cons_succ]
  refine pt_q (v := ?_) rfl (by rfl) ?_ ?_
  rotate_left
  · intro w' hBw'
    first | (go_simp; done) | (go_simp; with_reducible rfl)
  try simp only [Act.put, List.getElem_toArray, List.getElem_cons_zero, List.getElem_cons_succ, List.setIfInBounds_toArray, List.set_cons_zero, List.set_cons_succ]
  refine pt_q (v := ?_) rfl (by rfl) ?_ ?_
  rotate_left
  · intro w' hBw'
    first | (go_simp; done) | (go_simp; with_reducible rfl)
  try simp only [Act.put, List.getElem_toArray, List.getElem_cons_zero, List.getElem_cons_succ, List.setIfInBounds_toArray, List.set_cons_zero, List.set_cons_succ]
  refine pt_c ?_
  refine pt_step rfl (by rfl) (fun K hK => ?_)
  go_simp
  refine (K1.out _).mono ?_
  rintro en w3 ⟨rfl, rfl⟩
  refine hK.out _ _ (But.refl _ _) ?_
  clear hK K
  try simp only [Act.put, List.getElem_toArray, List.getElem_cons_zero, List.getElem_cons_succ, List.setIfInBounds_toArray, List.set_cons_zero, List.set_cons_succ]
  refine pt_c ?_
  refine pt_step rfl (by rfl) (fun K hK => ?_)
  go_simp
  refine (K2.out _).mono ?_
  rintro en w3 ⟨rfl, rfl⟩
  refine hK.out _ _ (But.refl _ _) ?_
  clear hK K
  try simp only [Act.put, List.getElem_toArray, List.getElem_cons_zero, List.getElem_cons_succ, List.setIfInBounds_toArray, List.set_cons_zero, List.set_cons_succ]
  refine pt_c ?_
  refine pt_step rfl (by rfl) (fun K hK => ?_)
  go_simp
  refine (K3.out _).mono ?_
  rintro en w3 ⟨rfl, rfl⟩
  refine hK.out _ _ (But.refl _ _) ?_
  clear hK K
  try simp only [Act.put, List.getElem_toArray, List.getElem_cons_zero, List.getElem_cons_succ, List.setIfInBounds_toArray, List.set_cons_zero, List.set_cons_succ]
  refine pt_c ?_
  refine pt_step rfl (by rfl) (fun K hK => ?_)
  go_simp
  refine (K4.out _).mono ?_
  rintro en w3 ⟨rfl, rfl⟩
  refine hK.out _ _ (But.refl _ _) ?_
  clear hK K
  try simp only [Act.put, List.getElem_toArray, List.getElem_cons_zero, List.getElem_cons_succ, List.setIfInBounds_toArray, List.set_cons_zero, List.set_cons_succ]
  refine pt_c ?_
  refine pt_step rfl (by rfl) (fun K hK => ?_)
  go_simp
  refine hK.out _ _ (But.alloc _ _) ?_
  clear hK K
  try simp only [Act.put, List.getElem_toArray, List.getElem_cons_zero, List.getElem_cons_succ, List.setIfInBounds_toArray, List.set_cons_zero, List.set_cons_succ]
  refine pt_q (v := ?_) rfl (by rfl) ?_ ?_
  rotate_left
  · intro w' hBw'
    first | (go_simp; done) | (go_simp; with_reducible rfl)
  try simp only [Act.put, List.getElem_toArray, List.getElem_cons_zero, List.getElem_cons_succ, List.setIfInBounds_toArray, List.set_cons_zero, List.set_cons_succ]
  refine pt_done ?_
  have hB := below_up (below_up hb2 hBd) (below_alloc Wd (.cells #[.int .i64 c1, .int .i64 c2, .int .i64 c3, .int .i64 c4] 3))
  have R := RowAt.new Wd #[.int .i64 c1, .int .i64 c2, .int .i64 c3, .int .i64 c4] 3
  clear X Y X1 Y1 qt qx0 qx1 qx2 qx3 qy0 qy1 qy2 qy3 hb2 hBd K1 K2 K3 K4 w1 w2 w4 w1' w2' w4'
  generalize Wd.heap.size = B at *
  generalize Wd.alloc (.cells #[.int .i64 c1, .int .i64 c2, .int .i64 c3, .int .i64 c4] 3) = W1 at *
  obtain ⟨cs, hcs⟩ : ∃ cs, [c1, c2, c3, c4] = cs := ⟨_, rfl⟩
  have hR : ∀ k (hk : k < cs.length), W1.cell? ⟨B, k, none⟩ = some (.int .i64 cs[k]) := fun k hk => by
    subst hcs
    rcases k with _ | _ | _ | _ | k
    · exact R.cell (i := 0) rfl
    · exact R.cell (i := 1) rfl
    · exact R.cell (i := 2) rfl
    · exact R.cell (i := 3) rfl
    · simp only [List.length_cons, List.length_nil] at hk; omega
  have HR := Lib.hid hR
  have h4 : cs.length = 4 := by rw [← hcs]; rfl
  have H4 := Lib.hid h4
  have HCS := Lib.hid hcs
  clear hcs hR h4 R
  go_wp2
  go_loop [6] (fun vi => ∃ k : Nat, vi = .int .i64 k ∧ k ≤ 4 ∧ ∀ j, j < k → cs.getD j 0 = 0) (fun vi => 4 - (intOf vi).toNat)
  case atStart => exact ⟨0, rfl, by omega, fun j hj => by omega⟩
  case round =>
    obtain ⟨k, rfl, hk, h0⟩ := hrel
    have H0 := Lib.hid h0
    clear h0
    by_cases hlt : k < 4
    · have hkI : (k : Int) < 4 := by omega
      have hkl : k < cs.length := by rw [H4.out]; exact hlt
      have hcell := HR.out k hkl
      obtain ⟨cv, hcv⟩ : ∃ cv, cs[k] = cv := ⟨_, rfl⟩
      rw [hcv] at hcell
      have HCV := Lib.hid hcv
      clear hcv
      by_cases hc : cv = 0
      · subst hc
        go_wp2
        exact ⟨⟨k + 1, by go_num, by omega, fun j hj => by rcases Nat.lt_or_ge j k with h | h; exact H0.out j h; (obtain rfl : j = k := (by omega)); rw [List.getD_eq_getElem?_getD, List.getElem?_eq_getElem hkl, HCV.out]; rfl⟩, by simp [intOf]; omega⟩
      · have hcb : (cv != 0) = true := by simp [hc]
        go_wp2
        go_ret
        exact ⟨retI (by rw [HCS.out]; exact ((cmpL_at cs k hkl H0.out (fun e => hc (HCV.out.symm.trans e))).trans HCV.out).symm), hB⟩
    · obtain rfl : k = 4 := by omega
      go_wp2
      go_ret
      exact ⟨retI (by rw [HCS.out]; exact (cmpL_zero cs (fun j hj => H0.out j (by rw [← H4.out]; exact hj))).symm), hB⟩
theorem one_wn (l : List WN) : ∀ u ∈ l.flatMap wnC, u.oneCell' = true := fun u hu => by
  obtain ⟨x, _, hx⟩ := List.mem_flatMap.1 hu
  simp only [List.mem_cons, List.not_mem_nil, or_false] at hx
  rcases hx with rfl | rfl | rfl | rfl <;> rfl
theorem wn_one (x : WN) : (wnC x).toArray.all (·.oneCell') = true := all_oneCell_toArray (fun u hu => one_wn [x] u (by simpa using hu))
theorem row_ownN {w : World} {base g c m : Nat} {J : List Value} {O : List (WN)} (h : Arr w g 31 J wnC O) (hm : O.length = m) (hg : base ≤ g) (hmc : m ≤ c) (hcm : c ≤ maxLen) (hJ : m * 4 + J.length = c * 4) : w.ownsRow base 31 4 (.slice (some ⟨g, 0, none⟩) m c) m (O.flatMap wnC) := by
  have hfl := arr_len (cells := wnC) (sz := 4) (fun _ => rfl) O
  rw [hm] at hfl
  exact ⟨hfl, .inr ⟨g, c, _, rfl, hg, h, hmc, hcm, by rw [List.size_toArray, List.length_append, hfl]; exact hJ, by
      show (O.flatMap wnC ++ J).take (m * 4) = _
      rw [List.take_append_of_le_length (by omega), List.take_of_length_le (by omega)]⟩⟩
theorem own_arrN {w : World} {base m c : Nat} {a : Option Addr} {O : List (WN)} (h : w.ownsRow base 31 4 (.slice a m c) m (O.flatMap wnC)) (hm : 0 < m) : ∃ g J, a = some ⟨g, 0, none⟩ ∧ base ≤ g ∧ Arr w g 31 J wnC O ∧ m ≤ c ∧ c ≤ maxLen ∧ m * 4 + J.length = c * 4 := by
  rcases h.2 with ⟨hv, h0⟩ | ⟨g, cap, cur, hv, hg, hrow, hnc, hcm, hcs, hct⟩
  · omega
  · obtain ⟨rfl, rfl⟩ : a = some ⟨g, 0, none⟩ ∧ c = cap := by simpa using hv
    obtain ⟨J, hJ⟩ : ∃ J, cur.toList.drop (m * 4) = J := ⟨_, rfl⟩
    have hcur : cur = (O.flatMap wnC ++ J).toArray := by rw [← hct, ← hJ, List.take_append_drop]
    have hJl : m * 4 + J.length = c * 4 := by rw [← hcs, ← hJ, List.length_drop, Array.length_toList, hcs]; omega
    subst hcur
    exact ⟨g, J, rfl, hg, hrow, hnc, hcm, hJl⟩
set_option maxHeartbeats 4000000 in
set_option maxRecDepth 100000 in
theorem rnSorted_c (l : List WN) (v : Value) (n : Nat) (w : World) (hv : Sl w 4 v n (l.flatMap wnC)) (hn : n ≤ 100000) :
    Calls Tryd.prog 35 #[v] w fun en w' => ∃ (v' : Value) (W : List WN), en = .returned v' ∧ w'.ownsRow w.heap.size 31 4 v' n (W.flatMap wnC) ∧ W.Perm l ∧ Sorted (ltc wnCmp) W ∧ Below w.heap.size w w' := by
  have HL := Lib.hid (Sl.recs (cells := wnC) (sz := 4) (fun _ => rfl) (by decide) hv)
  obtain ⟨a, c, rfl⟩ := hv.len
  have HV := Lib.hid hv
  clear hv
  go_enter Tryd.func35, Tryd.ntmps35
  go_wp2
  go_loopw [3, 4] (fun va vi wr => ∃ (ao : Option Addr) (m co i : Nat) (O : List WN), va = .slice ao m co ∧ vi = .int .i64 i ∧ i ≤ n ∧ m = i ∧ O.Perm (l.take i) ∧ Sorted (ltc wnCmp) O ∧ wr.ownsRow w.heap.size 31 4 (.slice ao m co) m (O.flatMap wnC) ∧ Below w.heap.size w wr) (fun _ vi _ => n - (intOf vi).toNat)
  case atStart => exact ⟨none, 0, 0, 0, [], rfl, rfl, Nat.zero_le _, rfl, List.Perm.refl _, Sorted.nil, World.ownsRow_nil _ _ _ _, Below.refl _ _⟩
  case round =>
    obtain ⟨ao, m, co, i, O, rfl, rfl, hi, hmi, hp, hs, ho, hB⟩ := hrel
    have hs' := (HV.out.up hB)
    by_cases hlt : i < n
    · have hiI : (i : Int) < (n : Int) := by omega
      have hil : i < l.length := by rw [HL.out]; exact hlt
      obtain ⟨b, off, rfl, hr⟩ := hs'.rec_at (cells := wnC) (sz := 4) (fun _ => rfl) hlt hil
      have HX := Lib.hid (List.take_succ_eq_append_getElem hil)
      obtain ⟨hr0⟩ : Nonempty (w.rangeAt b (off + i * 4) (wnC l[i])) := by
        obtain ⟨b', off', he, hr'⟩ := HV.out.rec_at (cells := wnC) (sz := 4) (fun _ => rfl) hlt hil
        obtain ⟨rfl, rfl⟩ : b = b' ∧ off = off' := by simpa using he
        exact ⟨hr'⟩
      have HR0 := Lib.hid hr0
      clear hr0
      generalize l[i] = x at *
      have HP := Lib.hid (And.intro hp hs)
      have wi : IntKind.i64.wrap ((i : Int) + 1) = ((i + 1 : Nat) : Int) := by rw [IntKind.wrap_i64]; omega
      have HMI := Lib.hid hmi
      have hml : m ≤ 100000 := by omega
      clear hp hs hs' hmi
      have ho2 := ho.alloc (.cells (wnC x).toArray 31)
      have hs2 : Sl (wr.alloc (.cells (wnC x).toArray 31)) 4 (.slice (some ⟨wr.heap.size, 0, none⟩) 1 1) 1 ([x].flatMap wnC) := Sl.of_own (World.ownsRow_lit wr (wnC x).toArray 1 (size := 4) (e := 31) (Nat.le_refl _) (by decide) rfl)
      have hB2 := hB.alloc hB.size (.cells (wnC x).toArray 31)
      have hBs := hB.size
      go_wp2_with (first
        | (refine wpList_load_mid rfl 31 (.tmp 17) rfl b (off + i * 4) rfl (wnC x) _ hr Tryd.underlying31 rfl (by kernel_rfl) ?_)
        | (at_builtin; refine wpList_app rfl (.tmp 14) (.tmp 19) 71 rfl slN w.heap.size rfl ho2 rfl hs2 (one_wn [x]) (by simp [maxLen]; omega) (by omega) (by simp; omega) ?_; intro v3 w3 ho3 hg3 _; have hb3 := grown_below hB2 hg3 (fun k hk => (own_of_some ho2 hk).1); obtain ⟨a3, c3, rfl⟩ := own_slice ho3; clear ho ho2 hs2 hg3 hB2 hr))
      obtain ⟨g, J, rfl, hg, hA, hmc, hcm, hJl⟩ := own_arrN (m := m + 1) (O := O ++ [x]) (by rw [List.flatMap_append]; simpa using ho3) (by omega)
      have hOl : O.length = m := by
        have hl := arr_len (cells := wnC) (sz := 4) (fun _ => rfl) O
        have h2 := ho3.1
        have h3 : (List.flatMap wnC [x]).length = 4 := rfl
        rw [List.length_append, hl, h3] at h2
        omega
      have HQ := Lib.hid (And.intro hg (And.intro hmc (And.intro hcm (And.intro hJl (And.intro hOl (And.intro hb3 HMI.out))))))
      obtain ⟨mm, hmm⟩ : ∃ mm, m + 1 = mm := ⟨_, rfl⟩
      have HMM := Lib.hid hmm
      rw [hmm] at ho3 ⊢
      clear ho3 hmm hmc hcm hJl
      go_loopw [5] (fun vk wj => ∃ (k : Nat) (S1 S2 : List (WN)) (z : WN), vk = .int .i64 k ∧ S1.length = k ∧ S1 ++ S2 = O ∧ (∀ y, S2.head? = some y → ltc wnCmp y x = false) ∧ Arr wj g 31 J wnC (S1 ++ z :: S2) ∧ But (· = g) w3 wj) (fun vk _ => (intOf vk).toNat)
      case atStart => exact ⟨m, O, [], x, rfl, hOl, by simp, by simp, hA, But.refl _ _⟩
      case round =>
        clear hA hOl hg
        obtain ⟨k, S1, S2, z, rfl, hk, hSS, hS2, hAj, hBj⟩ := hrel
        have hBw : Below w.heap.size w wr := HQ.out.2.2.2.2.2.1.trans (hBj.below (fun q e => by rw [e]; exact HQ.out.1) HQ.out.2.2.2.2.2.1.size)
        have hr := rangeAt_up hBw HR0.out
        have hkm : k < mm := by
          have h9 := HQ.out.2.2.2.2.1
          have h8 := HMM.out
          rw [← hSS, List.length_append] at h9
          omega
        have hkmI : (k : Int) < (mm : Int) := by omega
        by_cases hk0 : 0 < k
        · obtain ⟨y, hy⟩ := last_some (A := S1) (by intro e0; rw [e0] at hk; simp at hk; omega)
          obtain ⟨S0, hS0⟩ : ∃ S0, S1.dropLast = S0 := ⟨_, rfl⟩
          have hsp := last_split hy
          rw [hS0] at hsp
          obtain ⟨j, rfl⟩ : ∃ j, k = j + 1 := ⟨k - 1, by omega⟩
          have hj : S0.length = j := by
            rw [hsp] at hk
            simp only [List.length_append, List.length_cons, List.length_nil] at hk
            omega
          have hLe : S1 ++ z :: S2 = S0 ++ y :: z :: S2 := by rw [hsp]; simp
          rw [hLe] at hAj
          have hg1 := nb_get1 S0 S2 y z
          have hgz := nb_get2 S0 S2 y z
          rw [hj] at hg1 hgz
          have hput : (S0 ++ y :: z :: S2).set (j + 1) y = S0 ++ y :: y :: S2 := by
            rw [← hj, List.set_append_right _ _ (by omega), show S0.length + 1 - S0.length = 1 by omega]; rfl
          have hputx : (S0 ++ y :: z :: S2).set (j + 1) x = S0 ++ y :: x :: S2 := by
            rw [← hj, List.set_append_right _ _ (by omega), show S0.length + 1 - S0.length = 1 by omega]; rfl
          have hll : j + 1 < (S0 ++ y :: z :: S2).length := (List.getElem?_eq_some_iff.1 hgz).1
          obtain ⟨LL, hLL⟩ : ∃ LL, S0 ++ y :: z :: S2 = LL := ⟨_, rfl⟩
          rw [hLL] at hAj hg1 hgz hput hputx hll
          have hr1 := hAj.at (fun _ => rfl) (sz := 4) hg1
          have Hh := Lib.hid (And.intro hAj hll)
          have HK := Lib.hid (And.intro hk (And.intro hSS (And.intro hS2 (And.intro hsp (And.intro hj (And.intro hy (And.intro hput (And.intro hputx hBj))))))))
          obtain ⟨kk, hkk⟩ : ∃ kk, j + 1 = kk := ⟨_, rfl⟩
          have HKK := Lib.hid hkk
          have hjm : (j : Int) < (mm : Int) := by omega
          rw [hkk] at hk0 hkmI ⊢
          have hkI : (kk : Int) > 0 := by omega
          have wk : IntKind.i64.wrap ((kk : Int) - 1) = (j : Int) := by have h8 := HMM.out; rw [IntKind.wrap_i64]; omega
          have hac := fun w1 => rOrder_c x.1 y.1 x.2 y.2 w1
          obtain ⟨cv, hcv⟩ : ∃ cv, nmCmp x.1 y.1 = cv := ⟨_, rfl⟩
          obtain ⟨rb, hrb⟩ : ∃ rb, decide (cv < 0) = rb := ⟨_, rfl⟩
          simp only [hcv] at hac
          have HAC := Lib.hid hac
          have HRB := Lib.hid (show ltc wnCmp x y = rb by rw [← hrb, ← hcv]; rfl)
          have HBW := Lib.hid hBw
          clear hk hSS hS2 hsp hj hLe hg1 hgz hput hputx hll hLL hS0 hkk hac hcv hAj hBj hy hBw
          go_wp2
          refine wp_region_pt (fun _ => False) (.q 0 (.q 1 (.q 2 (.q 3 (.q 4 (.q 5 (.q 6 (.q 7 (.q 8 (.q 9 (.q 10 (.q 11 (.c 12 (.q 13 (.q 14 .done))))))))))))))) (by kernel_rfl) (by kernel_rfl) (by kernel_rfl) (by decide) (fun _ _ d _ _ h => by cases d <;> exact h) (fun Wd hBd => ?_)
          try simp only [Act.put, List.getElem_toArray, List.getElem_cons_zero, List.getElem_cons_succ, List.setIfInBounds_toArray, List.set_cons_zero, List.set_cons_succ]
          have hr := rangeAt_up hBd hr
          have hr1 := rangeAt_up hBd hr1
          refine pt_q (v := ?_) rfl (by rfl) ?_ ?_
          rotate_left
          · intro w' hBw'
            first | (go_simp; done) | (go_simp; with_reducible rfl)
          try simp only [Act.put, List.getElem_toArray, List.getElem_cons_zero, List.getElem_cons_succ, List.setIfInBounds_toArray, List.set_cons_zero, List.set_cons_succ]
          refine pt_q (v := ?_) rfl (by rfl) ?_ ?_
          rotate_left
          · intro w' hBw'
            first | (go_simp; done) | (go_simp; with_reducible rfl)
          try simp only [Act.put, List.getElem_toArray, List.getElem_cons_zero, List.getElem_cons_succ, List.setIfInBounds_toArray, List.set_cons_zero, List.set_cons_succ]
          refine pt_q (v := ?_) rfl (by rfl) ?_ ?_
          rotate_left
          · intro w' hBw'
            first | (go_simp; done) | (go_simp; with_reducible rfl)
          try simp only [Act.put, List.getElem_toArray, List.getElem_cons_zero, List.getElem_cons_succ, List.setIfInBounds_toArray, List.set_cons_zero, List.set_cons_succ]
          refine pt_q (v := ?_) rfl (by rfl) ?_ ?_
          rotate_left
          · intro w' hBw'
            first | (go_simp; done) | (go_simp; with_reducible rfl)
          try simp only [Act.put, List.getElem_toArray, List.getElem_cons_zero, List.getElem_cons_succ, List.setIfInBounds_toArray, List.set_cons_zero, List.set_cons_succ]
          refine pt_q (v := ?_) rfl (by rfl) ?_ ?_
          rotate_left
          · intro w' hBw'
            first | (go_simp; done) | (go_simp; with_reducible rfl)
          try simp only [Act.put, List.getElem_toArray, List.getElem_cons_zero, List.getElem_cons_succ, List.setIfInBounds_toArray, List.set_cons_zero, List.set_cons_succ]
          refine pt_q (v := ?_) rfl (by rfl) ?_ ?_
          rotate_left
          · intro w' hBw'
            first | (go_simp; done) | (go_simp; with_reducible rfl)
          try simp only [Act.put, List.getElem_toArray, List.getElem_cons_zero, List.getElem_cons_succ, List.setIfInBounds_toArray, List.set_cons_zero, List.set_cons_succ]
          refine pt_load rfl (by rfl) 31 (.tmp 26) rfl b (off + i * 4) rfl (wnC x) _ hr (fun h => h) Tryd.underlying31 rfl (by kernel_rfl) ?_
          try simp only [Act.put, List.getElem_toArray, List.getElem_cons_zero, List.getElem_cons_succ, List.setIfInBounds_toArray, List.set_cons_zero, List.set_cons_succ]
          refine pt_q (v := ?_) rfl (by rfl) ?_ ?_
          rotate_left
          · intro w' hBw'
            first | (go_simp; done) | (go_simp; with_reducible rfl)
          try simp only [Act.put, List.getElem_toArray, List.getElem_cons_zero, List.getElem_cons_succ, List.setIfInBounds_toArray, List.set_cons_zero, List.set_cons_succ]
          refine pt_q (v := ?_) rfl (by rfl) ?_ ?_
          rotate_left
          · intro w' hBw'
            first | (go_simp; done) | (go_simp; with_reducible rfl)
          try simp only [Act.put, List.getElem_toArray, List.getElem_cons_zero, List.getElem_cons_succ, List.setIfInBounds_toArray, List.set_cons_zero, List.set_cons_succ]
          refine pt_q (v := ?_) rfl (by rfl) ?_ ?_
          rotate_left
          · intro w' hBw'
            first | (go_simp; done) | (go_simp; with_reducible rfl)
          try simp only [Act.put, List.getElem_toArray, List.getElem_cons_zero, List.getElem_cons_succ, List.setIfInBounds_toArray, List.set_cons_zero, List.set_cons_succ]
          refine pt_q (v := ?_) rfl (by rfl) ?_ ?_
          rotate_left
          · intro w' hBw'
            first | (go_simp; done) | (go_simp; with_reducible rfl)
          try simp only [Act.put, List.getElem_toArray, List.getElem_cons_zero, List.getElem_cons_succ, List.setIfInBounds_toArray, List.set_cons_zero, List.set_cons_succ]
          refine pt_load rfl (by rfl) 31 (.tmp 31) rfl g (j * 4) rfl (wnC y) _ hr1 (fun h => h) Tryd.underlying31 rfl (by kernel_rfl) ?_
          try simp only [Act.put, List.getElem_toArray, List.getElem_cons_zero, List.getElem_cons_succ, List.setIfInBounds_toArray, List.set_cons_zero, List.set_cons_succ]
          refine pt_c ?_
          refine pt_step rfl (by rfl) (fun K hK => ?_)
          go_simp
          refine (HAC.out _).mono ?_
          rintro en w4 ⟨rfl, hb4⟩
          refine hK.out _ _ (But.of_below hb4) ?_
          clear hK K
          try simp only [Act.put, List.getElem_toArray, List.getElem_cons_zero, List.getElem_cons_succ, List.setIfInBounds_toArray, List.set_cons_zero, List.set_cons_succ]
          refine pt_q (v := ?_) rfl (by rfl) ?_ ?_
          rotate_left
          · intro w' hBw'
            first | (go_simp; done) | (go_simp; with_reducible rfl)
          try simp only [Act.put, List.getElem_toArray, List.getElem_cons_zero, List.getElem_cons_succ, List.setIfInBounds_toArray, List.set_cons_zero, List.set_cons_succ]
          refine pt_q (v := ?_) rfl (by rfl) ?_ ?_
          rotate_left
          · intro w' hBw'
            first | (go_simp; done) | (go_simp; with_reducible rfl)
          try simp only [Act.put, List.getElem_toArray, List.getElem_cons_zero, List.getElem_cons_succ, List.setIfInBounds_toArray, List.set_cons_zero, List.set_cons_succ]
          refine pt_done ?_
          have hBx := hBd.trans (hb4.mono hBd.size)
          have Hh2 := Lib.hid (And.intro (RowAt.below Hh.out.1 hBx) Hh.out.2)
          have hrx := rangeAt_up hb4 hr
          have hr1x := rangeAt_up hb4 hr1
          have HB4 := Lib.hid (below_up HBW.out hBx)
          have HBX := Lib.hid hBx
          clear hr hr1 hBd hb4 hBx
          cases rb with
          | false =>
            have hth : w4.there g (kk * 4) (wnC x).toArray.size := (show Arr w4 g 31 J wnC LL from Hh2.out.1).there (cells := wnC) (sz := 4) (fun _ => rfl) (by rw [← HKK.out]; exact Hh2.out.2)
            go_wp2_with (first
              | (refine wpList_load_mid rfl 31 (.tmp 50) rfl b (off + i * 4) rfl (wnC x) _ hrx Tryd.underlying31 rfl (by kernel_rfl) ?_)
              | (refine wpList_store_mid rfl 31 (.tmp 52) (.tmp 51) rfl g (kk * 4) (wnC x).toArray rfl rfl hth (by kernel_rfl) (wn_one x) ?_; go_loud (have V3 : Arr (w4.setCells g (kk * 4) (wnC x).toArray.toList) g 31 J wnC (LL.set kk x) := (show Arr w4 g 31 J wnC LL from Hh2.out.1).put (sz := 4) (fun _ => rfl) (by rw [← HKK.out]; exact Hh2.out.2) x; have hB5 : But (· = g) w4 (w4.setCells g (kk * 4) (wnC x).toArray.toList) := But.setCells (wnC x) w4 (kk * 4) rfl; obtain ⟨W5, hW5⟩ : ∃ W, W = w4.setCells g (kk * 4) (wnC x).toArray.toList := ⟨_, rfl⟩; rw [← hW5] at V3 hB5 ⊢; clear hW5 hth hrx hr1x)))
            obtain ⟨hk, hSS, hS2, hsp, hj, hy, hput, hputx, hBj⟩ := HK.out
            rw [← HKK.out, hputx] at V3
            have hlast : ∀ z, S1.getLast? = some z → ltc wnCmp x z = false := fun z hz => by rw [hy] at hz; obtain rfl := Option.some.inj hz; exact HRB.out
            have hBw5 := HB4.out.trans (hB5.below (fun q e => by rw [e]; exact HQ.out.1) HB4.out.size)
            replace V3 : Arr W5 g 31 J wnC (S1 ++ x :: S2) := by rw [hsp]; simpa using V3
            have hc := ins_sorted wnTO (x := x) (A := S1) (B := S2) (by rw [hSS]; exact HP.out.2) hlast hS2
            have hfin : Below w.heap.size w W5 := hBw5
            refine ⟨⟨some ⟨g, 0, none⟩, m + 1, c3, i + 1, S1 ++ x :: S2, by rw [HMM.out], by go_num, by omega, by have := HQ.out.2.2.2.2.2.2; omega, ?_, hc, row_ownN V3 (by rw [List.length_append, List.length_cons]; have := HQ.out.2.2.2.2.1; rw [← hSS, List.length_append] at this; omega) HQ.out.1 HQ.out.2.1 HQ.out.2.2.1 HQ.out.2.2.2.1, hfin⟩, by simp [intOf]; omega⟩
            rw [HX.out]
            refine List.Perm.trans ?_ (HP.out.1.append (List.Perm.refl [x]))
            rw [← hSS, List.append_assoc]
            exact List.Perm.append_left S1 (List.perm_append_comm (l₁ := [x]) (l₂ := S2))
          | true =>
            have hth : w4.there g (kk * 4) (wnC y).toArray.size := (show Arr w4 g 31 J wnC LL from Hh2.out.1).there (cells := wnC) (sz := 4) (fun _ => rfl) (by rw [← HKK.out]; exact Hh2.out.2)
            go_wp2_with (first
              | (refine wpList_load_mid rfl 31 (.tmp 41) rfl g (j * 4) rfl (wnC y) _ hr1x Tryd.underlying31 rfl (by kernel_rfl) ?_)
              | (refine wpList_store_mid rfl 31 (.tmp 43) (.tmp 42) rfl g (kk * 4) (wnC y).toArray rfl rfl hth (by kernel_rfl) (wn_one y) ?_; go_loud (have V3 : Arr (w4.setCells g (kk * 4) (wnC y).toArray.toList) g 31 J wnC (LL.set kk y) := (show Arr w4 g 31 J wnC LL from Hh2.out.1).put (sz := 4) (fun _ => rfl) (by rw [← HKK.out]; exact Hh2.out.2) y; have hB5 : But (· = g) w4 (w4.setCells g (kk * 4) (wnC y).toArray.toList) := But.setCells (wnC y) w4 (kk * 4) rfl; obtain ⟨W5, hW5⟩ : ∃ W, W = w4.setCells g (kk * 4) (wnC y).toArray.toList := ⟨_, rfl⟩; rw [← hW5] at V3 hB5 ⊢; clear hW5 hth hrx hr1x)))
            obtain ⟨hk, hSS, hS2, hsp, hj, hy, hput, hputx, hBj⟩ := HK.out
            rw [← HKK.out, hput] at V3
            exact ⟨⟨j, S0, y :: S2, y, by simp [wk], hj, by rw [← hSS, hsp]; simp, (fun q hq => by simp only [List.head?_cons, Option.some.injEq] at hq; subst hq; exact wnTO.asym _ _ HRB.out), V3, (hBj.trans (But.of_below HBX.out)).trans hB5⟩, by have := HKK.out; simp [intOf]; omega⟩
        · obtain rfl : k = 0 := by omega
          obtain rfl : S1 = [] := List.eq_nil_of_length_eq_zero hk
          have hz : 0 < ([] ++ z :: S2).length := by simp
          obtain ⟨LL, hLL⟩ : ∃ LL, [] ++ z :: S2 = LL := ⟨_, rfl⟩
          have hputx : LL.set 0 x = x :: S2 := by rw [← hLL]; rfl
          rw [hLL] at hAj hz
          have Hh := Lib.hid (And.intro hAj hz)
          have HK := Lib.hid (And.intro hSS (And.intro hS2 (And.intro hputx hBj)))
          have HBW := Lib.hid hBw
          have hmI : (0 : Int) < (mm : Int) := by omega
          clear hk hSS hS2 hz hLL hputx hAj hBj hBw
          go_wp2
          refine wp_region_pt (fun _ => False) (.q 0 (.q 1 (.q 2 (.q 3 (.q 4 (.q 5 (.q 6 (.q 7 (.q 8 (.q 9 (.q 10 (.q 11 (.q 12 (.q 13 (.q 14 .done))))))))))))))) (by kernel_rfl) (by kernel_rfl) (by kernel_rfl) (by decide) (fun _ _ d _ _ h => by cases d <;> exact h) (fun Wd hBd => ?_)
          try simp only [Act.put, List.getElem_toArray, List.getElem_cons_zero, List.getElem_cons_succ, List.setIfInBounds_toArray, List.set_cons_zero, List.set_cons_succ]
          refine pt_q (v := ?_) rfl (by rfl) ?_ ?_
          rotate_left
          · intro w' hBw'
            first | (go_simp; done) | (go_simp; with_reducible rfl)
          try simp only [Act.put, List.getElem_toArray, List.getElem_cons_zero, List.getElem_cons_succ, List.setIfInBounds_toArray, List.set_cons_zero, List.set_cons_succ]
          refine pt_q (v := ?_) rfl (by rfl) ?_ ?_
          rotate_left
          · intro w' hBw'
            first | (go_simp; done) | (go_simp; with_reducible rfl)
          try simp only [Act.put, List.getElem_toArray, List.getElem_cons_zero, List.getElem_cons_succ, List.setIfInBounds_toArray, List.set_cons_zero, List.set_cons_succ]
          refine pt_q (v := ?_) rfl (by rfl) ?_ ?_
          rotate_left
          · intro w' hBw'
            first | (go_simp; done) | (go_simp; with_reducible rfl)
          try simp only [Act.put, List.getElem_toArray, List.getElem_cons_zero, List.getElem_cons_succ, List.setIfInBounds_toArray, List.set_cons_zero, List.set_cons_succ]
          refine pt_no rfl (by rfl) ?_
          try simp only [Act.put, List.getElem_toArray, List.getElem_cons_zero, List.getElem_cons_succ, List.setIfInBounds_toArray, List.set_cons_zero, List.set_cons_succ]
          refine pt_no rfl (by rfl) ?_
          try simp only [Act.put, List.getElem_toArray, List.getElem_cons_zero, List.getElem_cons_succ, List.setIfInBounds_toArray, List.set_cons_zero, List.set_cons_succ]
          refine pt_no rfl (by rfl) ?_
          try simp only [Act.put, List.getElem_toArray, List.getElem_cons_zero, List.getElem_cons_succ, List.setIfInBounds_toArray, List.set_cons_zero, List.set_cons_succ]
          refine pt_no rfl (by rfl) ?_
          try simp only [Act.put, List.getElem_toArray, List.getElem_cons_zero, List.getElem_cons_succ, List.setIfInBounds_toArray, List.set_cons_zero, List.set_cons_succ]
          refine pt_no rfl (by rfl) ?_
          try simp only [Act.put, List.getElem_toArray, List.getElem_cons_zero, List.getElem_cons_succ, List.setIfInBounds_toArray, List.set_cons_zero, List.set_cons_succ]
          refine pt_no rfl (by rfl) ?_
          try simp only [Act.put, List.getElem_toArray, List.getElem_cons_zero, List.getElem_cons_succ, List.setIfInBounds_toArray, List.set_cons_zero, List.set_cons_succ]
          refine pt_no rfl (by rfl) ?_
          try simp only [Act.put, List.getElem_toArray, List.getElem_cons_zero, List.getElem_cons_succ, List.setIfInBounds_toArray, List.set_cons_zero, List.set_cons_succ]
          refine pt_no rfl (by rfl) ?_
          try simp only [Act.put, List.getElem_toArray, List.getElem_cons_zero, List.getElem_cons_succ, List.setIfInBounds_toArray, List.set_cons_zero, List.set_cons_succ]
          refine pt_no rfl (by rfl) ?_
          try simp only [Act.put, List.getElem_toArray, List.getElem_cons_zero, List.getElem_cons_succ, List.setIfInBounds_toArray, List.set_cons_zero, List.set_cons_succ]
          refine pt_no rfl (by rfl) ?_
          try simp only [Act.put, List.getElem_toArray, List.getElem_cons_zero, List.getElem_cons_succ, List.setIfInBounds_toArray, List.set_cons_zero, List.set_cons_succ]
          refine pt_no rfl (by rfl) ?_
          try simp only [Act.put, List.getElem_toArray, List.getElem_cons_zero, List.getElem_cons_succ, List.setIfInBounds_toArray, List.set_cons_zero, List.set_cons_succ]
          refine pt_q (v := ?_) rfl (by rfl) ?_ ?_
          rotate_left
          · intro w' hBw'
            first | (go_simp; done) | (go_simp; with_reducible rfl)
          try simp only [Act.put, List.getElem_toArray, List.getElem_cons_zero, List.getElem_cons_succ, List.setIfInBounds_toArray, List.set_cons_zero, List.set_cons_succ]
          refine pt_done ?_
          have Hh2 := Lib.hid (And.intro (RowAt.below Hh.out.1 hBd) Hh.out.2)
          have hrx := rangeAt_up hBd hr
          have HB4 := Lib.hid (below_up HBW.out hBd)
          clear hr hBd
          have hth : Wd.there g (0 * 4) (wnC x).toArray.size := (show Arr Wd g 31 J wnC LL from Hh2.out.1).there (cells := wnC) (sz := 4) (fun _ => rfl) (Hh2.out.2)
          go_wp2_with (first
            | (refine wpList_load_mid rfl 31 (.tmp 50) rfl b (off + i * 4) rfl (wnC x) _ hrx Tryd.underlying31 rfl (by kernel_rfl) ?_)
            | (refine wpList_store_mid rfl 31 (.tmp 52) (.tmp 51) rfl g (0 * 4) (wnC x).toArray rfl rfl hth (by kernel_rfl) (wn_one x) ?_; go_loud (have V3 : Arr (Wd.setCells g (0 * 4) (wnC x).toArray.toList) g 31 J wnC (LL.set 0 x) := (show Arr Wd g 31 J wnC LL from Hh2.out.1).put (sz := 4) (fun _ => rfl) (Hh2.out.2) x; have hB5 : But (· = g) Wd (Wd.setCells g (0 * 4) (wnC x).toArray.toList) := But.setCells (wnC x) Wd (0 * 4) rfl; obtain ⟨W5, hW5⟩ : ∃ W, W = Wd.setCells g (0 * 4) (wnC x).toArray.toList := ⟨_, rfl⟩; rw [← hW5] at V3 hB5 ⊢; clear hW5 hth hrx)))
          obtain ⟨hSS, hS2, hputx, hBj⟩ := HK.out
          rw [hputx] at V3
          have hlast : ∀ z, ([] : List (WN)).getLast? = some z → ltc wnCmp x z = false := fun z hz => by cases hz
          have hBw5 := HB4.out.trans (hB5.below (fun q e => by rw [e]; exact HQ.out.1) HB4.out.size)
          have hc := ins_sorted wnTO (x := x) (A := []) (B := S2) (by rw [hSS]; exact HP.out.2) hlast hS2
          have hfin : Below w.heap.size w W5 := hBw5
          refine ⟨⟨some ⟨g, 0, none⟩, m + 1, c3, i + 1, [] ++ x :: S2, by rw [HMM.out], by go_num, by omega, by have := HQ.out.2.2.2.2.2.2; omega, ?_, hc, row_ownN V3 (by rw [List.length_append, List.length_cons]; have := HQ.out.2.2.2.2.1; rw [← hSS, List.length_append] at this; omega) HQ.out.1 HQ.out.2.1 HQ.out.2.2.1 HQ.out.2.2.2.1, hfin⟩, by simp [intOf]; omega⟩
          rw [HX.out]
          refine List.Perm.trans ?_ (HP.out.1.append (List.Perm.refl [x]))
          rw [← hSS, List.append_assoc]
          exact List.Perm.append_left [] (List.perm_append_comm (l₁ := [x]) (l₂ := S2))
    · obtain rfl : i = n := by omega
      subst hmi
      go_wp2
      go_ret
      rw [List.take_of_length_le (by rw [HL.out]; exact Nat.le_refl _)] at hp
      exact ⟨_, O, rfl, ho, hp, hs, hB⟩
end Go.Proofs.YtpfgepgjpnekdaaDoor
