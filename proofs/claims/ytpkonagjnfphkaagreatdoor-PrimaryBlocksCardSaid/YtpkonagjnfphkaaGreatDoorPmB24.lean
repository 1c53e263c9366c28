/-
  NmOf: several texts in one (bundle.py).
-/
import Derived.Test.YtpkonagjnfphkaaGreatDoorPmB17
import Derived.Test.YtpkonagjnfphkaaGreatDoorPmB23
namespace Go.Proofs.YtpkonagjnfphkaaGreatDoor
open Go.RowKit Trc Cb
set_option linter.unusedSimpArgs false
set_option linter.unusedVariables false
theorem w32 (a : Nat) : IntKind.u32.wrap (a : Int) = ((a % 4294967296 : Nat) : Int) := by rw [IntKind.wrap_u32]; omega
theorem slU_at {w : World} {v : Value} {n : Nat} {U : List Int} (h : Sl w 1 v n (uC U)) (h5 : 5 ≤ n) : ∃ b off c, v = .slice (some ⟨b, off, none⟩) n c ∧ b < w.heap.size ∧ ∀ j, j < n → ∃ x, U[j]? = some x ∧ w.cell? ⟨b, off + j, none⟩ = some (.int .u64 x) := by
  obtain ⟨hl, ⟨a, c, rfl, h0⟩ | ⟨b, off, cap, rfl, hn, hm, hc⟩⟩ := h
  · omega
  · have hU : U.length = n := by simpa using hl
    have hj : ∀ j, j < n → ∃ x, U[j]? = some x ∧ w.cell? ⟨b, off + j, none⟩ = some (.int .u64 x) := fun j hj => by
      have hx : U[j]? = some (U[j]'(by omega)) := List.getElem?_eq_getElem (by omega)
      exact ⟨_, hx, hc j _ (by rw [List.getElem?_map, hx]; rfl)⟩
    obtain ⟨x, _, h1⟩ := hj 0 (by omega)
    exact ⟨b, off, cap, rfl, World.block_lt_of_cell? w _ h1, hj⟩
/-- Five numbers ahead of others. -/
abbrev five (a0 a1 a2 a3 a4 : Nat) (R : List Int) : List Int := (a0 : Int) :: (a1 : Int) :: (a2 : Int) :: (a3 : Int) :: (a4 : Int) :: R
set_option maxHeartbeats 1000000 in
set_option maxRecDepth 100000 in
theorem of1_c (a0 a1 a2 a3 a4 : Nat) (R : List Int) (v : Value) (n : Nat) (w : World) (hv : Sl w 1 v n (uC (five a0 a1 a2 a3 a4 R))) : Calls Tryz.prog 149 #[v] w (Ret (epV (if a0 = 2 then a1 % 4294967296 else 0) (if a0 = 2 then a2 % 4294967296 else 0)) w) := by
  have hn : 5 ≤ n := by have := hv.1; simp at this; omega
  obtain ⟨b, off, c, rfl, hb, hc⟩ := slU_at hv hn
  obtain ⟨x0, e0, c0⟩ := hc 0 (by omega)
  obtain ⟨x1, e1, c1⟩ := hc 1 (by omega)
  obtain ⟨x2, e2, c2⟩ := hc 2 (by omega)
  simp only [List.getElem?_cons_zero, List.getElem?_cons_succ, Option.some.injEq] at e0 e1 e2
  subst e0 e1 e2
  simp only [Nat.add_zero] at c0
  have q00 : 0 < n := by omega
  have q0 : (0 : Int) < (n : Int) := by omega
  have q1 : (1 : Int) < (n : Int) := by omega
  have q2 : (2 : Int) < (n : Int) := by omega
  have hB1 := below_alloc w (.cells #[.int .u32 0, .int .u32 0] 25)
  have Z0 := RowAt.new w #[.int .u32 0, .int .u32 0] 25
  have d0 := cell_up hB1 c0
  have d1 := cell_up hB1 c1
  have d2 := cell_up hB1 c2
  have hw1 := w32 a1
  have hw2 := w32 a2
  clear hv hc c1 c2
  by_cases h2 : a0 = 2
  · have hd : ((a0 : Int) == 2) = true := by simp [h2]
    rw [if_pos h2, if_pos h2]
    obtain ⟨m1, hm1⟩ : ∃ m, a1 % 4294967296 = m := ⟨_, rfl⟩
    obtain ⟨m2, hm2⟩ : ∃ m, a2 % 4294967296 = m := ⟨_, rfl⟩
    rw [hm1] at hw1 ⊢
    rw [hm2] at hw2 ⊢
    clear h2 hm1 hm2
    go_enter Tryz.func149, Tryz.ntmps149
    go_wp2
    refine wp_region_pt (fun k => k = w.heap.size) (.q 0 (.q 1 (.q 2 (.q 3 (.q 4 (.q 5 (.q 6 (.q 7 (.q 8 (.c 9 .done)))))))))) (by kernel_rfl) (by kernel_rfl) (by kernel_rfl) (by decide) (fun _ _ d _ _ h => by cases d <;> exact h) (fun Wd hBd => ?_)
    try simp only [Act.put, List.getElem_toArray, List.getElem_cons_zero, List.getElem_cons_succ, List.setIfInBounds_toArray, List.set_cons_zero, List.set_cons_succ]
    have e1 := cell_up hBd d1
    have e2 := cell_up hBd d2
    have Zd := Z0.below hBd
    have D0 := below_up hB1 hBd
    iterate 2
      refine pt_q (v := ?_) rfl (by rfl) ?_ ?_
      rotate_left
      · intro w' hBw'
        first | (go_simp; done) | (go_simp; with_reducible rfl)
      try simp only [Act.put, List.getElem_toArray, List.getElem_cons_zero, List.getElem_cons_succ, List.setIfInBounds_toArray, List.set_cons_zero, List.set_cons_succ]
    refine pt_q (v := ?_) rfl (by rfl) ?_ ?_
    rotate_left
    · intro w' hBw'
      have qL := hBw'.cell e1 (by omega)
      first | (go_simp; done) | (go_simp; with_reducible rfl)
    iterate 3
      try simp only [Act.put, List.getElem_toArray, List.getElem_cons_zero, List.getElem_cons_succ, List.setIfInBounds_toArray, List.set_cons_zero, List.set_cons_succ]
      refine pt_q (v := ?_) rfl (by rfl) ?_ ?_
      rotate_left
      · intro w' hBw'
        first | (go_simp; done) | (go_simp; with_reducible rfl)
    try simp only [Act.put, List.getElem_toArray, List.getElem_cons_zero, List.getElem_cons_succ, List.setIfInBounds_toArray, List.set_cons_zero, List.set_cons_succ]
    refine pt_q (v := ?_) rfl (by rfl) ?_ ?_
    rotate_left
    · intro w' hBw'
      have qL := hBw'.cell e2 (by omega)
      first | (go_simp; done) | (go_simp; with_reducible rfl)
    iterate 2
      try simp only [Act.put, List.getElem_toArray, List.getElem_cons_zero, List.getElem_cons_succ, List.setIfInBounds_toArray, List.set_cons_zero, List.set_cons_succ]
      refine pt_q (v := ?_) rfl (by rfl) ?_ ?_
      rotate_left
      · intro w' hBw'
        first | (go_simp; done) | (go_simp; with_reducible rfl)
    try simp only [Act.put, List.getElem_toArray, List.getElem_cons_zero, List.getElem_cons_succ, List.setIfInBounds_toArray, List.set_cons_zero, List.set_cons_succ]
    refine pt_c ?_
    refine pt_put_row rfl (by rfl) 25 _ _ rfl w.heap.size [.int .u32 m1, .int .u32 m2] rfl rfl Zd rfl (by kernel_rfl) rfl rfl ?_
    try simp only [Act.put, List.getElem_toArray, List.getElem_cons_zero, List.getElem_cons_succ, List.setIfInBounds_toArray, List.set_cons_zero, List.set_cons_succ]
    intro w9 X9 hb9
    have D9 := D0.trans (hb9.below (fun k e => by omega) D0.size)
    have x0 := RowAt.cell X9 (i := 0) rfl
    have x1 := RowAt.cell X9 (i := 1) rfl
    have f0 := RowAt.fz X9 0
    have f1 := RowAt.fz X9 1
    refine pt_done ?_
    go_wp2
    have R9 := X9
    have hR := (X9.set 0 (.int .u32 m1)).set 1 (.int .u32 m2)
    have g0 := RowAt.cell hR (i := 0) (v := .int .u32 m1) rfl
    have g1 := RowAt.cell hR (i := 1) (v := .int .u32 m2) rfl
    refine bodyPost_ret (v := epV m1 m2) (by simp [results, Tryz.results149, go_sem, g0, g1]) rfl ?_
    exact ⟨rfl, (D9.setCell (by simp) _).setCell (by simp) _⟩
  · have hd : ((a0 : Int) == 2) = false := by simp; omega
    rw [if_neg h2, if_neg h2]
    clear h2
    go_enter Tryz.func149, Tryz.ntmps149
    go_wp2
    go_ways
    refine bodyPost_ret (v := epV 0 0) (by simp [results, Tryz.results149, go_sem]) rfl ?_
    exact ⟨rfl, hB1⟩
end Go.Proofs.YtpkonagjnfphkaaGreatDoor
