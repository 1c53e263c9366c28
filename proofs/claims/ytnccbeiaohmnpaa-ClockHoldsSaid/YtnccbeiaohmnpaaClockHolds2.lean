/-
  The walks of ClockHolds, one a case: it returns true.
-/
import Derived.Test.YtnccbeiaohmnpaaClockHolds
namespace Go.Proofs.Ytnccbeiaohmnpaa
open Go.RowKit
set_option linter.unusedVariables false

set_option maxHeartbeats 4000000 in
set_option maxRecDepth 100000 in
theorem clockHolds_r0 (n0 n1 n2 a b r A B C : Int) (h : HoldsIn n0 n1 n2 A B C) (w : World) (g0 : 0 ≤ n0) (g1 : 0 ≤ n1) (g2 : 0 ≤ n2) (k1 : n1 ≤ 18446744073709551615) (k0 : n0 ≤ 18446744073709551615) (gA : 0 ≤ A) (gC : 0 ≤ C) (hAB : A ≤ B) (hB4 : B ≤ 4611686018427387903)
    (ga : 0 ≤ a) (gr : 0 ≤ r) (hA4 : A < 4611686018427387903)
    (hr : Clk.rightB a b = false) :
    Calls Try.prog 4 #[.agg #[.int .u64 n0, .int .u64 n1, .int .u64 n2], .agg #[.int .u64 a, .int .u64 b], .int .u64 r] w (Ret (.bool true) w) := by
  go_enter Try.func4, Try.ntmps4
  go_wp2
  obtain ⟨W, hW⟩ : ∃ W, W = (w.alloc (.cells #[.int .u64 n0, .int .u64 n1, .int .u64 n2] 33)).alloc (.cells #[.int .u64 a, .int .u64 b] 24) := ⟨_, rfl⟩
  have hB : Below w.heap.size w W := by rw [hW]; exact below_new (below_alloc _ _)
  have a0 : W.cell? ⟨w.heap.size, 0, none⟩ = some (.int .u64 n0) := by rw [hW]; simp [go_sem]
  have a1 : W.cell? ⟨w.heap.size, 1, none⟩ = some (.int .u64 n1) := by rw [hW]; simp [go_sem]
  have a2 : W.cell? ⟨w.heap.size, 2, none⟩ = some (.int .u64 n2) := by rw [hW]; simp [go_sem]
  have x0 : W.cell? ⟨w.heap.size + 1, 0, none⟩ = some (.int .u64 a) := by rw [hW]; simp [go_sem]
  have x1 : W.cell? ⟨w.heap.size + 1, 1, none⟩ = some (.int .u64 b) := by rw [hW]; simp [go_sem]
  rw [← hW]
  clear hW
  refine wp_region_abv (by kernel_rfl) (by kernel_rfl) ?_
  have A0 : ∀ t : Abv W, t.val.cell? ⟨w.heap.size, 0, none⟩ = some (.int .u64 n0) := fun t => t.cell _ _ a0
  have A1 : ∀ t : Abv W, t.val.cell? ⟨w.heap.size, 1, none⟩ = some (.int .u64 n1) := fun t => t.cell _ _ a1
  have A2 : ∀ t : Abv W, t.val.cell? ⟨w.heap.size, 2, none⟩ = some (.int .u64 n2) := fun t => t.cell _ _ a2
  repeat (go_big_quiet_step ((first
    | (go_at_call_of 16 (Value.int .u64 C); exact Abv.call (h.e3 ▸ add_c n0 C _ g0 gC))
    | (go_at_call_of 16 (Value.int .u64 n2); exact Abv.call (h.e2 ▸ add_c n1 n2 _ g1 g2))
    | (go_at_call 16; exact Abv.call (h.e1 ▸ add_c n0 n1 _ g0 g1)))))
  refine wpQuiet_nil ?_
  rintro _ ⟨t, rfl⟩
  have hb2 := t.prop
  (have a0 := cell_up hb2 a0; have a1 := cell_up hb2 a1; have a2 := cell_up hb2 a2; have x0 := cell_up hb2 x0; have x1 := cell_up hb2 x1; have hB := below_up hB hb2; clear hb2)
  clear A0 A1 A2
  go_wp2_with (first
    | (go_at_call_of 16 (Value.int .u64 n2); refine (h.e5 ▸ add_c A n2 _ gA g2 : Calls _ _ _ _ (Ret (.int .u64 B) _)).mono ?_; rintro e w2 ⟨rfl, hb2⟩; have a0 := cell_up hb2 a0; have a1 := cell_up hb2 a1; have a2 := cell_up hb2 a2; have x0 := cell_up hb2 x0; have x1 := cell_up hb2 x1; have hB := below_up hB hb2; clear hb2)
    | (go_at_call 16; refine (h.e4 ▸ add_c n1 n0 _ g1 g0 : Calls _ _ _ _ (Ret (.int .u64 A) _)).mono ?_; rintro e w2 ⟨rfl, hb2⟩; have a0 := cell_up hb2 a0; have a1 := cell_up hb2 a1; have a2 := cell_up hb2 a2; have x0 := cell_up hb2 x0; have x1 := cell_up hb2 x1; have hB := below_up hB hb2; clear hb2))
  obtain ⟨W2, hW2⟩ : ∃ W2 : World, W2 = w2 := ⟨_, rfl⟩
  rw [← hW2] at a0 a1 a2 x0 x1 hB ⊢
  clear hW2
  refine wp_region_abv (by kernel_rfl) (by kernel_rfl) ?_
  have A0 : ∀ t : Abv W2, t.val.cell? ⟨w.heap.size, 0, none⟩ = some (.int .u64 n0) := fun t => t.cell _ _ a0
  have A1 : ∀ t : Abv W2, t.val.cell? ⟨w.heap.size, 1, none⟩ = some (.int .u64 n1) := fun t => t.cell _ _ a1
  have hs1 := h.s1 hA4
  have hs2 := h.s2 hA4
  have Hs1 := Lib.hid hs1
  have Hs2 := Lib.hid hs2
  clear hs1 hs2
  repeat (go_big_quiet_step ((first
    | (go_at_call_of 17 (Value.int .u64 n1); exact Abv.same (Hs1.out ▸ sub_c A n1 _ gA g1 k1))
    | (go_at_call_of 17 (Value.int .u64 n0); exact Abv.same (Hs2.out ▸ sub_c A n0 _ gA g0 k0)))))
  refine wpQuiet_nil ?_
  rintro _ ⟨t2, rfl⟩
  have hb2 := t2.prop
  (have a0 := cell_up hb2 a0; have a1 := cell_up hb2 a1; have a2 := cell_up hb2 a2; have x0 := cell_up hb2 x0; have x1 := cell_up hb2 x1; have hB := below_up hB hb2; clear hb2)
  clear A0 A1
  have Hr := Lib.hid hr; clear hr
  go_wp2_with (first
    | (go_at_call 9; refine (right_c _ _ _).mono ?_; rw [Hr.out]; rintro e w2 ⟨rfl, hb2⟩; have a0 := cell_up hb2 a0; have a1 := cell_up hb2 a1; have a2 := cell_up hb2 a2; have x0 := cell_up hb2 x0; have x1 := cell_up hb2 x1; have hB := below_up hB hb2; clear hb2)
    | (go_at_call 15; refine (works_c _).mono ?_; rintro e w2 ⟨rfl, hb2⟩; have a0 := cell_up hb2 a0; have a1 := cell_up hb2 a1; have a2 := cell_up hb2 a2; have x0 := cell_up hb2 x0; have x1 := cell_up hb2 x1; have hB := below_up hB hb2; clear hb2))
  go_ret
  exact ⟨rfl, hB⟩

set_option maxHeartbeats 4000000 in
set_option maxRecDepth 100000 in
theorem clockHolds_r1 (n0 n1 n2 a b r A B C : Int) (h : HoldsIn n0 n1 n2 A B C) (w : World) (g0 : 0 ≤ n0) (g1 : 0 ≤ n1) (g2 : 0 ≤ n2) (k1 : n1 ≤ 18446744073709551615) (k0 : n0 ≤ 18446744073709551615) (gA : 0 ≤ A) (gC : 0 ≤ C) (hAB : A ≤ B) (hB4 : B ≤ 4611686018427387903)
    (ga : 0 ≤ a) (gr : 0 ≤ r) (hA4 : ¬ A < 4611686018427387903)
    (hr : Clk.rightB a b = false) :
    Calls Try.prog 4 #[.agg #[.int .u64 n0, .int .u64 n1, .int .u64 n2], .agg #[.int .u64 a, .int .u64 b], .int .u64 r] w (Ret (.bool true) w) := by
  go_enter Try.func4, Try.ntmps4
  go_wp2
  obtain ⟨W, hW⟩ : ∃ W, W = (w.alloc (.cells #[.int .u64 n0, .int .u64 n1, .int .u64 n2] 33)).alloc (.cells #[.int .u64 a, .int .u64 b] 24) := ⟨_, rfl⟩
  have hB : Below w.heap.size w W := by rw [hW]; exact below_new (below_alloc _ _)
  have a0 : W.cell? ⟨w.heap.size, 0, none⟩ = some (.int .u64 n0) := by rw [hW]; simp [go_sem]
  have a1 : W.cell? ⟨w.heap.size, 1, none⟩ = some (.int .u64 n1) := by rw [hW]; simp [go_sem]
  have a2 : W.cell? ⟨w.heap.size, 2, none⟩ = some (.int .u64 n2) := by rw [hW]; simp [go_sem]
  have x0 : W.cell? ⟨w.heap.size + 1, 0, none⟩ = some (.int .u64 a) := by rw [hW]; simp [go_sem]
  have x1 : W.cell? ⟨w.heap.size + 1, 1, none⟩ = some (.int .u64 b) := by rw [hW]; simp [go_sem]
  rw [← hW]
  clear hW
  refine wp_region_abv (by kernel_rfl) (by kernel_rfl) ?_
  have A0 : ∀ t : Abv W, t.val.cell? ⟨w.heap.size, 0, none⟩ = some (.int .u64 n0) := fun t => t.cell _ _ a0
  have A1 : ∀ t : Abv W, t.val.cell? ⟨w.heap.size, 1, none⟩ = some (.int .u64 n1) := fun t => t.cell _ _ a1
  have A2 : ∀ t : Abv W, t.val.cell? ⟨w.heap.size, 2, none⟩ = some (.int .u64 n2) := fun t => t.cell _ _ a2
  repeat (go_big_quiet_step ((first
    | (go_at_call_of 16 (Value.int .u64 C); exact Abv.call (h.e3 ▸ add_c n0 C _ g0 gC))
    | (go_at_call_of 16 (Value.int .u64 n2); exact Abv.call (h.e2 ▸ add_c n1 n2 _ g1 g2))
    | (go_at_call 16; exact Abv.call (h.e1 ▸ add_c n0 n1 _ g0 g1)))))
  refine wpQuiet_nil ?_
  rintro _ ⟨t, rfl⟩
  have hb2 := t.prop
  (have a0 := cell_up hb2 a0; have a1 := cell_up hb2 a1; have a2 := cell_up hb2 a2; have x0 := cell_up hb2 x0; have x1 := cell_up hb2 x1; have hB := below_up hB hb2; clear hb2)
  clear A0 A1 A2
  go_wp2_with (first
    | (go_at_call_of 16 (Value.int .u64 n2); refine (h.e5 ▸ add_c A n2 _ gA g2 : Calls _ _ _ _ (Ret (.int .u64 B) _)).mono ?_; rintro e w2 ⟨rfl, hb2⟩; have a0 := cell_up hb2 a0; have a1 := cell_up hb2 a1; have a2 := cell_up hb2 a2; have x0 := cell_up hb2 x0; have x1 := cell_up hb2 x1; have hB := below_up hB hb2; clear hb2)
    | (go_at_call 16; refine (h.e4 ▸ add_c n1 n0 _ g1 g0 : Calls _ _ _ _ (Ret (.int .u64 A) _)).mono ?_; rintro e w2 ⟨rfl, hb2⟩; have a0 := cell_up hb2 a0; have a1 := cell_up hb2 a1; have a2 := cell_up hb2 a2; have x0 := cell_up hb2 x0; have x1 := cell_up hb2 x1; have hB := below_up hB hb2; clear hb2))
  obtain ⟨W2, hW2⟩ : ∃ W2 : World, W2 = w2 := ⟨_, rfl⟩
  rw [← hW2] at a0 a1 a2 x0 x1 hB ⊢
  clear hW2
  refine wp_region_abv (by kernel_rfl) (by kernel_rfl) ?_
  have A0 : ∀ t : Abv W2, t.val.cell? ⟨w.heap.size, 0, none⟩ = some (.int .u64 n0) := fun t => t.cell _ _ a0
  have A1 : ∀ t : Abv W2, t.val.cell? ⟨w.heap.size, 1, none⟩ = some (.int .u64 n1) := fun t => t.cell _ _ a1
  have hd : decide (A < 4611686018427387903) = false := decide_eq_false (by omega)
  repeat (go_big_quiet_step (fail))
  clear hd
  refine wpQuiet_nil ?_
  rintro _ ⟨t2, rfl⟩
  have hb2 := t2.prop
  (have a0 := cell_up hb2 a0; have a1 := cell_up hb2 a1; have a2 := cell_up hb2 a2; have x0 := cell_up hb2 x0; have x1 := cell_up hb2 x1; have hB := below_up hB hb2; clear hb2)
  clear A0 A1
  have Hr := Lib.hid hr; clear hr
  go_wp2_with (first
    | (go_at_call 9; refine (right_c _ _ _).mono ?_; rw [Hr.out]; rintro e w2 ⟨rfl, hb2⟩; have a0 := cell_up hb2 a0; have a1 := cell_up hb2 a1; have a2 := cell_up hb2 a2; have x0 := cell_up hb2 x0; have x1 := cell_up hb2 x1; have hB := below_up hB hb2; clear hb2)
    | (go_at_call 15; refine (works_c _).mono ?_; rintro e w2 ⟨rfl, hb2⟩; have a0 := cell_up hb2 a0; have a1 := cell_up hb2 a1; have a2 := cell_up hb2 a2; have x0 := cell_up hb2 x0; have x1 := cell_up hb2 x1; have hB := below_up hB hb2; clear hb2))
  go_ret
  exact ⟨rfl, hB⟩

set_option maxHeartbeats 4000000 in
set_option maxRecDepth 100000 in
theorem clockHolds_z00 (n0 n1 n2 a b r A B C : Int) (h : HoldsIn n0 n1 n2 A B C) (w : World) (g0 : 0 ≤ n0) (g1 : 0 ≤ n1) (g2 : 0 ≤ n2) (k1 : n1 ≤ 18446744073709551615) (k0 : n0 ≤ 18446744073709551615) (gA : 0 ≤ A) (gC : 0 ≤ C) (hAB : A ≤ B) (hB4 : B ≤ 4611686018427387903)
    (ga : 0 ≤ a) (gr : 0 ≤ r) (hA4 : A < 4611686018427387903)
    (hr : Clk.rightB a b = true) (r1 : r ≤ 18446744073709551615) (hab : a < b) (c : Int) (hc : Clk.carriesF a b r = c) (c0 : 0 ≤ c) (c1 : c ≤ 4611686018427387903) (cz : c = 0) :
    Calls Try.prog 4 #[.agg #[.int .u64 n0, .int .u64 n1, .int .u64 n2], .agg #[.int .u64 a, .int .u64 b], .int .u64 r] w (Ret (.bool true) w) := by
  go_enter Try.func4, Try.ntmps4
  go_wp2
  obtain ⟨W, hW⟩ : ∃ W, W = (w.alloc (.cells #[.int .u64 n0, .int .u64 n1, .int .u64 n2] 33)).alloc (.cells #[.int .u64 a, .int .u64 b] 24) := ⟨_, rfl⟩
  have hB : Below w.heap.size w W := by rw [hW]; exact below_new (below_alloc _ _)
  have a0 : W.cell? ⟨w.heap.size, 0, none⟩ = some (.int .u64 n0) := by rw [hW]; simp [go_sem]
  have a1 : W.cell? ⟨w.heap.size, 1, none⟩ = some (.int .u64 n1) := by rw [hW]; simp [go_sem]
  have a2 : W.cell? ⟨w.heap.size, 2, none⟩ = some (.int .u64 n2) := by rw [hW]; simp [go_sem]
  have x0 : W.cell? ⟨w.heap.size + 1, 0, none⟩ = some (.int .u64 a) := by rw [hW]; simp [go_sem]
  have x1 : W.cell? ⟨w.heap.size + 1, 1, none⟩ = some (.int .u64 b) := by rw [hW]; simp [go_sem]
  rw [← hW]
  clear hW
  refine wp_region_abv (by kernel_rfl) (by kernel_rfl) ?_
  have A0 : ∀ t : Abv W, t.val.cell? ⟨w.heap.size, 0, none⟩ = some (.int .u64 n0) := fun t => t.cell _ _ a0
  have A1 : ∀ t : Abv W, t.val.cell? ⟨w.heap.size, 1, none⟩ = some (.int .u64 n1) := fun t => t.cell _ _ a1
  have A2 : ∀ t : Abv W, t.val.cell? ⟨w.heap.size, 2, none⟩ = some (.int .u64 n2) := fun t => t.cell _ _ a2
  repeat (go_big_quiet_step ((first
    | (go_at_call_of 16 (Value.int .u64 C); exact Abv.call (h.e3 ▸ add_c n0 C _ g0 gC))
    | (go_at_call_of 16 (Value.int .u64 n2); exact Abv.call (h.e2 ▸ add_c n1 n2 _ g1 g2))
    | (go_at_call 16; exact Abv.call (h.e1 ▸ add_c n0 n1 _ g0 g1)))))
  refine wpQuiet_nil ?_
  rintro _ ⟨t, rfl⟩
  have hb2 := t.prop
  (have a0 := cell_up hb2 a0; have a1 := cell_up hb2 a1; have a2 := cell_up hb2 a2; have x0 := cell_up hb2 x0; have x1 := cell_up hb2 x1; have hB := below_up hB hb2; clear hb2)
  clear A0 A1 A2
  go_wp2_with (first
    | (go_at_call_of 16 (Value.int .u64 n2); refine (h.e5 ▸ add_c A n2 _ gA g2 : Calls _ _ _ _ (Ret (.int .u64 B) _)).mono ?_; rintro e w2 ⟨rfl, hb2⟩; have a0 := cell_up hb2 a0; have a1 := cell_up hb2 a1; have a2 := cell_up hb2 a2; have x0 := cell_up hb2 x0; have x1 := cell_up hb2 x1; have hB := below_up hB hb2; clear hb2)
    | (go_at_call 16; refine (h.e4 ▸ add_c n1 n0 _ g1 g0 : Calls _ _ _ _ (Ret (.int .u64 A) _)).mono ?_; rintro e w2 ⟨rfl, hb2⟩; have a0 := cell_up hb2 a0; have a1 := cell_up hb2 a1; have a2 := cell_up hb2 a2; have x0 := cell_up hb2 x0; have x1 := cell_up hb2 x1; have hB := below_up hB hb2; clear hb2))
  obtain ⟨W2, hW2⟩ : ∃ W2 : World, W2 = w2 := ⟨_, rfl⟩
  rw [← hW2] at a0 a1 a2 x0 x1 hB ⊢
  clear hW2
  refine wp_region_abv (by kernel_rfl) (by kernel_rfl) ?_
  have A0 : ∀ t : Abv W2, t.val.cell? ⟨w.heap.size, 0, none⟩ = some (.int .u64 n0) := fun t => t.cell _ _ a0
  have A1 : ∀ t : Abv W2, t.val.cell? ⟨w.heap.size, 1, none⟩ = some (.int .u64 n1) := fun t => t.cell _ _ a1
  have hs1 := h.s1 hA4
  have hs2 := h.s2 hA4
  have Hs1 := Lib.hid hs1
  have Hs2 := Lib.hid hs2
  clear hs1 hs2
  repeat (go_big_quiet_step ((first
    | (go_at_call_of 17 (Value.int .u64 n1); exact Abv.same (Hs1.out ▸ sub_c A n1 _ gA g1 k1))
    | (go_at_call_of 17 (Value.int .u64 n0); exact Abv.same (Hs2.out ▸ sub_c A n0 _ gA g0 k0)))))
  refine wpQuiet_nil ?_
  rintro _ ⟨t2, rfl⟩
  have hb2 := t2.prop
  (have a0 := cell_up hb2 a0; have a1 := cell_up hb2 a1; have a2 := cell_up hb2 a2; have x0 := cell_up hb2 x0; have x1 := cell_up hb2 x1; have hB := below_up hB hb2; clear hb2)
  clear A0 A1
  obtain ⟨hb1, hb2, hi1, hi2⟩ := Clk.both_self a b hr
  rw [decide_eq_true hab] at hb1 hi1
  have hF := hb2 hab
  clear hb2
  subst cz
  have Hr := Lib.hid hr; have Hc := Lib.hid hc; have Hb1 := Lib.hid hb1; have HF := Lib.hid hF; have Hi1 := Lib.hid hi1; have Hi2 := Lib.hid hi2
  clear hr hc hb1 hF hi1 hi2 a0 a1 a2 h hAB hB4 gA gC hA4
  go_wp2_with (first
    | (go_at_call 9; refine (right_c _ _ _).mono ?_; rw [Hr.out]; rintro e w2 ⟨rfl, hb2⟩; have x0 := cell_up hb2 x0; have x1 := cell_up hb2 x1; have hB := below_up hB hb2; clear hb2)
    | (go_at_call 13; refine (carries_c _ _ _ _ ga gr).mono ?_; rw [Hc.out]; rintro e w2 ⟨rfl, hb2⟩; have x0 := cell_up hb2 x0; have x1 := cell_up hb2 x1; have hB := below_up hB hb2; clear hb2))
  obtain ⟨W3, hW3⟩ : ∃ W3 : World, W3 = w2 := ⟨_, rfl⟩
  rw [← hW3] at x0 x1 hB ⊢
  clear hW3
  refine wp_region_abv (by kernel_rfl) (by kernel_rfl) ?_
  have X0 : ∀ t : Abv W3, t.val.cell? ⟨w.heap.size + 1, 0, none⟩ = some (.int .u64 a) := fun t => t.cell _ _ x0
  have X1 : ∀ t : Abv W3, t.val.cell? ⟨w.heap.size + 1, 1, none⟩ = some (.int .u64 b) := fun t => t.cell _ _ x1
  repeat (go_big_quiet_step (fail))
  refine wpQuiet_nil ?_
  rintro _ ⟨t3, rfl⟩
  have hb2 := t3.prop
  (have x0 := cell_up hb2 x0; have x1 := cell_up hb2 x1; have hB := below_up hB hb2; clear hb2)
  clear X0 X1
  go_wp2_with fail
  refine (both_c a b a b _).mono ?_
  rw [HF.out, Hb1.out]
  rintro e w5 ⟨rfl, hb2⟩
  (have x0 := cell_up hb2 x0; have x1 := cell_up hb2 x1; have hB := below_up hB hb2; clear hb2)
  go_wp2_with (first
    | (go_at_call_of 11 (Value.int .u64 a); refine (inM_c _ _ _ _).mono ?_; rw [Hi1.out]; rintro e w6 ⟨rfl, hb2⟩; have hb2 := below_new hb2; have x0 := cell_up hb2 x0; have x1 := cell_up hb2 x1; have hB := below_up hB hb2; clear hb2)
    | (go_at_call_of 11 (Value.int .u64 b); refine (inM_c _ _ _ _).mono ?_; rw [Hi2.out]; rintro e w6 ⟨rfl, hb2⟩; have x0 := cell_up hb2 x0; have x1 := cell_up hb2 x1; have hB := below_up hB hb2; clear hb2)
    | (go_at_call 15; refine (works_c _).mono ?_; rintro e w6 ⟨rfl, hb2⟩; have x0 := cell_up hb2 x0; have x1 := cell_up hb2 x1; have hB := below_up hB hb2; clear hb2))
  go_ret
  exact ⟨rfl, hB⟩

set_option maxHeartbeats 4000000 in
set_option maxRecDepth 100000 in
theorem clockHolds_z01 (n0 n1 n2 a b r A B C : Int) (h : HoldsIn n0 n1 n2 A B C) (w : World) (g0 : 0 ≤ n0) (g1 : 0 ≤ n1) (g2 : 0 ≤ n2) (k1 : n1 ≤ 18446744073709551615) (k0 : n0 ≤ 18446744073709551615) (gA : 0 ≤ A) (gC : 0 ≤ C) (hAB : A ≤ B) (hB4 : B ≤ 4611686018427387903)
    (ga : 0 ≤ a) (gr : 0 ≤ r) (hA4 : A < 4611686018427387903)
    (hr : Clk.rightB a b = true) (r1 : r ≤ 18446744073709551615) (hab : decide (a < b) = false) (c : Int) (hc : Clk.carriesF a b r = c) (c0 : 0 ≤ c) (c1 : c ≤ 4611686018427387903) (cz : c = 0) :
    Calls Try.prog 4 #[.agg #[.int .u64 n0, .int .u64 n1, .int .u64 n2], .agg #[.int .u64 a, .int .u64 b], .int .u64 r] w (Ret (.bool true) w) := by
  go_enter Try.func4, Try.ntmps4
  go_wp2
  obtain ⟨W, hW⟩ : ∃ W, W = (w.alloc (.cells #[.int .u64 n0, .int .u64 n1, .int .u64 n2] 33)).alloc (.cells #[.int .u64 a, .int .u64 b] 24) := ⟨_, rfl⟩
  have hB : Below w.heap.size w W := by rw [hW]; exact below_new (below_alloc _ _)
  have a0 : W.cell? ⟨w.heap.size, 0, none⟩ = some (.int .u64 n0) := by rw [hW]; simp [go_sem]
  have a1 : W.cell? ⟨w.heap.size, 1, none⟩ = some (.int .u64 n1) := by rw [hW]; simp [go_sem]
  have a2 : W.cell? ⟨w.heap.size, 2, none⟩ = some (.int .u64 n2) := by rw [hW]; simp [go_sem]
  have x0 : W.cell? ⟨w.heap.size + 1, 0, none⟩ = some (.int .u64 a) := by rw [hW]; simp [go_sem]
  have x1 : W.cell? ⟨w.heap.size + 1, 1, none⟩ = some (.int .u64 b) := by rw [hW]; simp [go_sem]
  rw [← hW]
  clear hW
  refine wp_region_abv (by kernel_rfl) (by kernel_rfl) ?_
  have A0 : ∀ t : Abv W, t.val.cell? ⟨w.heap.size, 0, none⟩ = some (.int .u64 n0) := fun t => t.cell _ _ a0
  have A1 : ∀ t : Abv W, t.val.cell? ⟨w.heap.size, 1, none⟩ = some (.int .u64 n1) := fun t => t.cell _ _ a1
  have A2 : ∀ t : Abv W, t.val.cell? ⟨w.heap.size, 2, none⟩ = some (.int .u64 n2) := fun t => t.cell _ _ a2
  repeat (go_big_quiet_step ((first
    | (go_at_call_of 16 (Value.int .u64 C); exact Abv.call (h.e3 ▸ add_c n0 C _ g0 gC))
    | (go_at_call_of 16 (Value.int .u64 n2); exact Abv.call (h.e2 ▸ add_c n1 n2 _ g1 g2))
    | (go_at_call 16; exact Abv.call (h.e1 ▸ add_c n0 n1 _ g0 g1)))))
  refine wpQuiet_nil ?_
  rintro _ ⟨t, rfl⟩
  have hb2 := t.prop
  (have a0 := cell_up hb2 a0; have a1 := cell_up hb2 a1; have a2 := cell_up hb2 a2; have x0 := cell_up hb2 x0; have x1 := cell_up hb2 x1; have hB := below_up hB hb2; clear hb2)
  clear A0 A1 A2
  go_wp2_with (first
    | (go_at_call_of 16 (Value.int .u64 n2); refine (h.e5 ▸ add_c A n2 _ gA g2 : Calls _ _ _ _ (Ret (.int .u64 B) _)).mono ?_; rintro e w2 ⟨rfl, hb2⟩; have a0 := cell_up hb2 a0; have a1 := cell_up hb2 a1; have a2 := cell_up hb2 a2; have x0 := cell_up hb2 x0; have x1 := cell_up hb2 x1; have hB := below_up hB hb2; clear hb2)
    | (go_at_call 16; refine (h.e4 ▸ add_c n1 n0 _ g1 g0 : Calls _ _ _ _ (Ret (.int .u64 A) _)).mono ?_; rintro e w2 ⟨rfl, hb2⟩; have a0 := cell_up hb2 a0; have a1 := cell_up hb2 a1; have a2 := cell_up hb2 a2; have x0 := cell_up hb2 x0; have x1 := cell_up hb2 x1; have hB := below_up hB hb2; clear hb2))
  obtain ⟨W2, hW2⟩ : ∃ W2 : World, W2 = w2 := ⟨_, rfl⟩
  rw [← hW2] at a0 a1 a2 x0 x1 hB ⊢
  clear hW2
  refine wp_region_abv (by kernel_rfl) (by kernel_rfl) ?_
  have A0 : ∀ t : Abv W2, t.val.cell? ⟨w.heap.size, 0, none⟩ = some (.int .u64 n0) := fun t => t.cell _ _ a0
  have A1 : ∀ t : Abv W2, t.val.cell? ⟨w.heap.size, 1, none⟩ = some (.int .u64 n1) := fun t => t.cell _ _ a1
  have hs1 := h.s1 hA4
  have hs2 := h.s2 hA4
  have Hs1 := Lib.hid hs1
  have Hs2 := Lib.hid hs2
  clear hs1 hs2
  repeat (go_big_quiet_step ((first
    | (go_at_call_of 17 (Value.int .u64 n1); exact Abv.same (Hs1.out ▸ sub_c A n1 _ gA g1 k1))
    | (go_at_call_of 17 (Value.int .u64 n0); exact Abv.same (Hs2.out ▸ sub_c A n0 _ gA g0 k0)))))
  refine wpQuiet_nil ?_
  rintro _ ⟨t2, rfl⟩
  have hb2 := t2.prop
  (have a0 := cell_up hb2 a0; have a1 := cell_up hb2 a1; have a2 := cell_up hb2 a2; have x0 := cell_up hb2 x0; have x1 := cell_up hb2 x1; have hB := below_up hB hb2; clear hb2)
  clear A0 A1
  obtain ⟨hb1, hb2, hi1, hi2⟩ := Clk.both_self a b hr
  rw [hab] at hb1 hi1
  have hF : Clk.bothF a b a b = .agg #[.int .u64 0, .int .u64 0] := by unfold Clk.bothF; rw [hb1]; rfl
  clear hb2
  subst cz
  have Hr := Lib.hid hr; have Hc := Lib.hid hc; have Hb1 := Lib.hid hb1; have HF := Lib.hid hF; have Hi1 := Lib.hid hi1; have Hi2 := Lib.hid hi2
  clear hr hc hb1 hF hi1 hi2 a0 a1 a2 h hAB hB4 gA gC hA4
  go_wp2_with (first
    | (go_at_call 9; refine (right_c _ _ _).mono ?_; rw [Hr.out]; rintro e w2 ⟨rfl, hb2⟩; have x0 := cell_up hb2 x0; have x1 := cell_up hb2 x1; have hB := below_up hB hb2; clear hb2)
    | (go_at_call 13; refine (carries_c _ _ _ _ ga gr).mono ?_; rw [Hc.out]; rintro e w2 ⟨rfl, hb2⟩; have x0 := cell_up hb2 x0; have x1 := cell_up hb2 x1; have hB := below_up hB hb2; clear hb2))
  obtain ⟨W3, hW3⟩ : ∃ W3 : World, W3 = w2 := ⟨_, rfl⟩
  rw [← hW3] at x0 x1 hB ⊢
  clear hW3
  refine wp_region_abv (by kernel_rfl) (by kernel_rfl) ?_
  have X0 : ∀ t : Abv W3, t.val.cell? ⟨w.heap.size + 1, 0, none⟩ = some (.int .u64 a) := fun t => t.cell _ _ x0
  have X1 : ∀ t : Abv W3, t.val.cell? ⟨w.heap.size + 1, 1, none⟩ = some (.int .u64 b) := fun t => t.cell _ _ x1
  repeat (go_big_quiet_step (fail))
  refine wpQuiet_nil ?_
  rintro _ ⟨t3, rfl⟩
  have hb2 := t3.prop
  (have x0 := cell_up hb2 x0; have x1 := cell_up hb2 x1; have hB := below_up hB hb2; clear hb2)
  clear X0 X1
  go_wp2_with fail
  refine (both_c a b a b _).mono ?_
  rw [HF.out, Hb1.out]
  rintro e w5 ⟨rfl, hb2⟩
  (have x0 := cell_up hb2 x0; have x1 := cell_up hb2 x1; have hB := below_up hB hb2; clear hb2)
  go_wp2_with (first
    | (go_at_call_of 11 (Value.int .u64 a); refine (inM_c _ _ _ _).mono ?_; rw [Hi1.out]; rintro e w6 ⟨rfl, hb2⟩; have hb2 := below_new hb2; have x0 := cell_up hb2 x0; have x1 := cell_up hb2 x1; have hB := below_up hB hb2; clear hb2)
    | (go_at_call_of 11 (Value.int .u64 b); refine (inM_c _ _ _ _).mono ?_; rw [Hi2.out]; rintro e w6 ⟨rfl, hb2⟩; have x0 := cell_up hb2 x0; have x1 := cell_up hb2 x1; have hB := below_up hB hb2; clear hb2)
    | (go_at_call 15; refine (works_c _).mono ?_; rintro e w6 ⟨rfl, hb2⟩; have x0 := cell_up hb2 x0; have x1 := cell_up hb2 x1; have hB := below_up hB hb2; clear hb2))
  go_ret
  exact ⟨rfl, hB⟩

set_option maxHeartbeats 4000000 in
set_option maxRecDepth 100000 in
theorem clockHolds_f00 (n0 n1 n2 a b r A B C : Int) (h : HoldsIn n0 n1 n2 A B C) (w : World) (g0 : 0 ≤ n0) (g1 : 0 ≤ n1) (g2 : 0 ≤ n2) (k1 : n1 ≤ 18446744073709551615) (k0 : n0 ≤ 18446744073709551615) (gA : 0 ≤ A) (gC : 0 ≤ C) (hAB : A ≤ B) (hB4 : B ≤ 4611686018427387903)
    (ga : 0 ≤ a) (gr : 0 ≤ r) (hA4 : A < 4611686018427387903)
    (hr : Clk.rightB a b = true) (r1 : r ≤ 18446744073709551615) (hab : a < b) (c : Int) (hc : Clk.carriesF a b r = c) (c0 : 0 ≤ c) (c1 : c ≤ 4611686018427387903) (cf : c = 4611686018427387903) :
    Calls Try.prog 4 #[.agg #[.int .u64 n0, .int .u64 n1, .int .u64 n2], .agg #[.int .u64 a, .int .u64 b], .int .u64 r] w (Ret (.bool true) w) := by
  go_enter Try.func4, Try.ntmps4
  go_wp2
  obtain ⟨W, hW⟩ : ∃ W, W = (w.alloc (.cells #[.int .u64 n0, .int .u64 n1, .int .u64 n2] 33)).alloc (.cells #[.int .u64 a, .int .u64 b] 24) := ⟨_, rfl⟩
  have hB : Below w.heap.size w W := by rw [hW]; exact below_new (below_alloc _ _)
  have a0 : W.cell? ⟨w.heap.size, 0, none⟩ = some (.int .u64 n0) := by rw [hW]; simp [go_sem]
  have a1 : W.cell? ⟨w.heap.size, 1, none⟩ = some (.int .u64 n1) := by rw [hW]; simp [go_sem]
  have a2 : W.cell? ⟨w.heap.size, 2, none⟩ = some (.int .u64 n2) := by rw [hW]; simp [go_sem]
  have x0 : W.cell? ⟨w.heap.size + 1, 0, none⟩ = some (.int .u64 a) := by rw [hW]; simp [go_sem]
  have x1 : W.cell? ⟨w.heap.size + 1, 1, none⟩ = some (.int .u64 b) := by rw [hW]; simp [go_sem]
  rw [← hW]
  clear hW
  refine wp_region_abv (by kernel_rfl) (by kernel_rfl) ?_
  have A0 : ∀ t : Abv W, t.val.cell? ⟨w.heap.size, 0, none⟩ = some (.int .u64 n0) := fun t => t.cell _ _ a0
  have A1 : ∀ t : Abv W, t.val.cell? ⟨w.heap.size, 1, none⟩ = some (.int .u64 n1) := fun t => t.cell _ _ a1
  have A2 : ∀ t : Abv W, t.val.cell? ⟨w.heap.size, 2, none⟩ = some (.int .u64 n2) := fun t => t.cell _ _ a2
  repeat (go_big_quiet_step ((first
    | (go_at_call_of 16 (Value.int .u64 C); exact Abv.call (h.e3 ▸ add_c n0 C _ g0 gC))
    | (go_at_call_of 16 (Value.int .u64 n2); exact Abv.call (h.e2 ▸ add_c n1 n2 _ g1 g2))
    | (go_at_call 16; exact Abv.call (h.e1 ▸ add_c n0 n1 _ g0 g1)))))
  refine wpQuiet_nil ?_
  rintro _ ⟨t, rfl⟩
  have hb2 := t.prop
  (have a0 := cell_up hb2 a0; have a1 := cell_up hb2 a1; have a2 := cell_up hb2 a2; have x0 := cell_up hb2 x0; have x1 := cell_up hb2 x1; have hB := below_up hB hb2; clear hb2)
  clear A0 A1 A2
  go_wp2_with (first
    | (go_at_call_of 16 (Value.int .u64 n2); refine (h.e5 ▸ add_c A n2 _ gA g2 : Calls _ _ _ _ (Ret (.int .u64 B) _)).mono ?_; rintro e w2 ⟨rfl, hb2⟩; have a0 := cell_up hb2 a0; have a1 := cell_up hb2 a1; have a2 := cell_up hb2 a2; have x0 := cell_up hb2 x0; have x1 := cell_up hb2 x1; have hB := below_up hB hb2; clear hb2)
    | (go_at_call 16; refine (h.e4 ▸ add_c n1 n0 _ g1 g0 : Calls _ _ _ _ (Ret (.int .u64 A) _)).mono ?_; rintro e w2 ⟨rfl, hb2⟩; have a0 := cell_up hb2 a0; have a1 := cell_up hb2 a1; have a2 := cell_up hb2 a2; have x0 := cell_up hb2 x0; have x1 := cell_up hb2 x1; have hB := below_up hB hb2; clear hb2))
  obtain ⟨W2, hW2⟩ : ∃ W2 : World, W2 = w2 := ⟨_, rfl⟩
  rw [← hW2] at a0 a1 a2 x0 x1 hB ⊢
  clear hW2
  refine wp_region_abv (by kernel_rfl) (by kernel_rfl) ?_
  have A0 : ∀ t : Abv W2, t.val.cell? ⟨w.heap.size, 0, none⟩ = some (.int .u64 n0) := fun t => t.cell _ _ a0
  have A1 : ∀ t : Abv W2, t.val.cell? ⟨w.heap.size, 1, none⟩ = some (.int .u64 n1) := fun t => t.cell _ _ a1
  have hs1 := h.s1 hA4
  have hs2 := h.s2 hA4
  have Hs1 := Lib.hid hs1
  have Hs2 := Lib.hid hs2
  clear hs1 hs2
  repeat (go_big_quiet_step ((first
    | (go_at_call_of 17 (Value.int .u64 n1); exact Abv.same (Hs1.out ▸ sub_c A n1 _ gA g1 k1))
    | (go_at_call_of 17 (Value.int .u64 n0); exact Abv.same (Hs2.out ▸ sub_c A n0 _ gA g0 k0)))))
  refine wpQuiet_nil ?_
  rintro _ ⟨t2, rfl⟩
  have hb2 := t2.prop
  (have a0 := cell_up hb2 a0; have a1 := cell_up hb2 a1; have a2 := cell_up hb2 a2; have x0 := cell_up hb2 x0; have x1 := cell_up hb2 x1; have hB := below_up hB hb2; clear hb2)
  clear A0 A1
  obtain ⟨hb1, hb2, hi1, hi2⟩ := Clk.both_self a b hr
  rw [decide_eq_true hab] at hb1 hi1
  have hF := hb2 hab
  clear hb2
  subst cf
  have Hr := Lib.hid hr; have Hc := Lib.hid hc; have Hb1 := Lib.hid hb1; have HF := Lib.hid hF; have Hi1 := Lib.hid hi1; have Hi2 := Lib.hid hi2
  clear hr hc hb1 hF hi1 hi2 a0 a1 a2 h hAB hB4 gA gC hA4
  go_wp2_with (first
    | (go_at_call 9; refine (right_c _ _ _).mono ?_; rw [Hr.out]; rintro e w2 ⟨rfl, hb2⟩; have x0 := cell_up hb2 x0; have x1 := cell_up hb2 x1; have hB := below_up hB hb2; clear hb2)
    | (go_at_call 13; refine (carries_c _ _ _ _ ga gr).mono ?_; rw [Hc.out]; rintro e w2 ⟨rfl, hb2⟩; have x0 := cell_up hb2 x0; have x1 := cell_up hb2 x1; have hB := below_up hB hb2; clear hb2))
  obtain ⟨W3, hW3⟩ : ∃ W3 : World, W3 = w2 := ⟨_, rfl⟩
  rw [← hW3] at x0 x1 hB ⊢
  clear hW3
  refine wp_region_abv (by kernel_rfl) (by kernel_rfl) ?_
  have X0 : ∀ t : Abv W3, t.val.cell? ⟨w.heap.size + 1, 0, none⟩ = some (.int .u64 a) := fun t => t.cell _ _ x0
  have X1 : ∀ t : Abv W3, t.val.cell? ⟨w.heap.size + 1, 1, none⟩ = some (.int .u64 b) := fun t => t.cell _ _ x1
  repeat (go_big_quiet_step (fail))
  refine wpQuiet_nil ?_
  rintro _ ⟨t3, rfl⟩
  have hb2 := t3.prop
  (have x0 := cell_up hb2 x0; have x1 := cell_up hb2 x1; have hB := below_up hB hb2; clear hb2)
  clear X0 X1
  go_wp2_with fail
  refine (both_c a b a b _).mono ?_
  rw [HF.out, Hb1.out]
  rintro e w5 ⟨rfl, hb2⟩
  (have x0 := cell_up hb2 x0; have x1 := cell_up hb2 x1; have hB := below_up hB hb2; clear hb2)
  go_wp2_with (first
    | (go_at_call_of 11 (Value.int .u64 a); refine (inM_c _ _ _ _).mono ?_; rw [Hi1.out]; rintro e w6 ⟨rfl, hb2⟩; have hb2 := below_new hb2; have x0 := cell_up hb2 x0; have x1 := cell_up hb2 x1; have hB := below_up hB hb2; clear hb2)
    | (go_at_call_of 11 (Value.int .u64 b); refine (inM_c _ _ _ _).mono ?_; rw [Hi2.out]; rintro e w6 ⟨rfl, hb2⟩; have x0 := cell_up hb2 x0; have x1 := cell_up hb2 x1; have hB := below_up hB hb2; clear hb2)
    | (go_at_call 15; refine (works_c _).mono ?_; rintro e w6 ⟨rfl, hb2⟩; have x0 := cell_up hb2 x0; have x1 := cell_up hb2 x1; have hB := below_up hB hb2; clear hb2))
  go_ret
  exact ⟨rfl, hB⟩

set_option maxHeartbeats 4000000 in
set_option maxRecDepth 100000 in
theorem clockHolds_m00 (n0 n1 n2 a b r A B C : Int) (h : HoldsIn n0 n1 n2 A B C) (w : World) (g0 : 0 ≤ n0) (g1 : 0 ≤ n1) (g2 : 0 ≤ n2) (k1 : n1 ≤ 18446744073709551615) (k0 : n0 ≤ 18446744073709551615) (gA : 0 ≤ A) (gC : 0 ≤ C) (hAB : A ≤ B) (hB4 : B ≤ 4611686018427387903)
    (ga : 0 ≤ a) (gr : 0 ≤ r) (hA4 : A < 4611686018427387903)
    (hr : Clk.rightB a b = true) (r1 : r ≤ 18446744073709551615) (hab : a < b) (c : Int) (hc : Clk.carriesF a b r = c) (c0 : 0 ≤ c) (c1 : c ≤ 4611686018427387903) (cm0 : 0 < c) (cm1 : c < 4611686018427387903) (bF : b < 4611686018427387903) (ho1 : Clk.overF a c r = b) (ho2 : Clk.overF a (c + 1) r = b + 1) :
    Calls Try.prog 4 #[.agg #[.int .u64 n0, .int .u64 n1, .int .u64 n2], .agg #[.int .u64 a, .int .u64 b], .int .u64 r] w (Ret (.bool true) w) := by
  go_enter Try.func4, Try.ntmps4
  go_wp2
  obtain ⟨W, hW⟩ : ∃ W, W = (w.alloc (.cells #[.int .u64 n0, .int .u64 n1, .int .u64 n2] 33)).alloc (.cells #[.int .u64 a, .int .u64 b] 24) := ⟨_, rfl⟩
  have hB : Below w.heap.size w W := by rw [hW]; exact below_new (below_alloc _ _)
  have a0 : W.cell? ⟨w.heap.size, 0, none⟩ = some (.int .u64 n0) := by rw [hW]; simp [go_sem]
  have a1 : W.cell? ⟨w.heap.size, 1, none⟩ = some (.int .u64 n1) := by rw [hW]; simp [go_sem]
  have a2 : W.cell? ⟨w.heap.size, 2, none⟩ = some (.int .u64 n2) := by rw [hW]; simp [go_sem]
  have x0 : W.cell? ⟨w.heap.size + 1, 0, none⟩ = some (.int .u64 a) := by rw [hW]; simp [go_sem]
  have x1 : W.cell? ⟨w.heap.size + 1, 1, none⟩ = some (.int .u64 b) := by rw [hW]; simp [go_sem]
  rw [← hW]
  clear hW
  refine wp_region_abv (by kernel_rfl) (by kernel_rfl) ?_
  have A0 : ∀ t : Abv W, t.val.cell? ⟨w.heap.size, 0, none⟩ = some (.int .u64 n0) := fun t => t.cell _ _ a0
  have A1 : ∀ t : Abv W, t.val.cell? ⟨w.heap.size, 1, none⟩ = some (.int .u64 n1) := fun t => t.cell _ _ a1
  have A2 : ∀ t : Abv W, t.val.cell? ⟨w.heap.size, 2, none⟩ = some (.int .u64 n2) := fun t => t.cell _ _ a2
  repeat (go_big_quiet_step ((first
    | (go_at_call_of 16 (Value.int .u64 C); exact Abv.call (h.e3 ▸ add_c n0 C _ g0 gC))
    | (go_at_call_of 16 (Value.int .u64 n2); exact Abv.call (h.e2 ▸ add_c n1 n2 _ g1 g2))
    | (go_at_call 16; exact Abv.call (h.e1 ▸ add_c n0 n1 _ g0 g1)))))
  refine wpQuiet_nil ?_
  rintro _ ⟨t, rfl⟩
  have hb2 := t.prop
  (have a0 := cell_up hb2 a0; have a1 := cell_up hb2 a1; have a2 := cell_up hb2 a2; have x0 := cell_up hb2 x0; have x1 := cell_up hb2 x1; have hB := below_up hB hb2; clear hb2)
  clear A0 A1 A2
  go_wp2_with (first
    | (go_at_call_of 16 (Value.int .u64 n2); refine (h.e5 ▸ add_c A n2 _ gA g2 : Calls _ _ _ _ (Ret (.int .u64 B) _)).mono ?_; rintro e w2 ⟨rfl, hb2⟩; have a0 := cell_up hb2 a0; have a1 := cell_up hb2 a1; have a2 := cell_up hb2 a2; have x0 := cell_up hb2 x0; have x1 := cell_up hb2 x1; have hB := below_up hB hb2; clear hb2)
    | (go_at_call 16; refine (h.e4 ▸ add_c n1 n0 _ g1 g0 : Calls _ _ _ _ (Ret (.int .u64 A) _)).mono ?_; rintro e w2 ⟨rfl, hb2⟩; have a0 := cell_up hb2 a0; have a1 := cell_up hb2 a1; have a2 := cell_up hb2 a2; have x0 := cell_up hb2 x0; have x1 := cell_up hb2 x1; have hB := below_up hB hb2; clear hb2))
  obtain ⟨W2, hW2⟩ : ∃ W2 : World, W2 = w2 := ⟨_, rfl⟩
  rw [← hW2] at a0 a1 a2 x0 x1 hB ⊢
  clear hW2
  refine wp_region_abv (by kernel_rfl) (by kernel_rfl) ?_
  have A0 : ∀ t : Abv W2, t.val.cell? ⟨w.heap.size, 0, none⟩ = some (.int .u64 n0) := fun t => t.cell _ _ a0
  have A1 : ∀ t : Abv W2, t.val.cell? ⟨w.heap.size, 1, none⟩ = some (.int .u64 n1) := fun t => t.cell _ _ a1
  have hs1 := h.s1 hA4
  have hs2 := h.s2 hA4
  have Hs1 := Lib.hid hs1
  have Hs2 := Lib.hid hs2
  clear hs1 hs2
  repeat (go_big_quiet_step ((first
    | (go_at_call_of 17 (Value.int .u64 n1); exact Abv.same (Hs1.out ▸ sub_c A n1 _ gA g1 k1))
    | (go_at_call_of 17 (Value.int .u64 n0); exact Abv.same (Hs2.out ▸ sub_c A n0 _ gA g0 k0)))))
  refine wpQuiet_nil ?_
  rintro _ ⟨t2, rfl⟩
  have hb2 := t2.prop
  (have a0 := cell_up hb2 a0; have a1 := cell_up hb2 a1; have a2 := cell_up hb2 a2; have x0 := cell_up hb2 x0; have x1 := cell_up hb2 x1; have hB := below_up hB hb2; clear hb2)
  clear A0 A1
  obtain ⟨hb1, hb2, hi1, hi2⟩ := Clk.both_self a b hr
  rw [decide_eq_true hab] at hb1 hi1
  have hF := hb2 hab
  clear hb2
  have Hr := Lib.hid hr; have Hc := Lib.hid hc; have Hb1 := Lib.hid hb1; have HF := Lib.hid hF; have Hi1 := Lib.hid hi1; have Hi2 := Lib.hid hi2
  clear hr hc hb1 hF hi1 hi2 a0 a1 a2 h hAB hB4 gA gC hA4
  have Ho1 := Lib.hid ho1; have Ho2 := Lib.hid ho2
  clear ho1 ho2
  go_wp2_with (first
    | (go_at_call 9; refine (right_c _ _ _).mono ?_; rw [Hr.out]; rintro e w2 ⟨rfl, hb2⟩; have x0 := cell_up hb2 x0; have x1 := cell_up hb2 x1; have hB := below_up hB hb2; clear hb2)
    | (go_at_call 13; refine (carries_c _ _ _ _ ga gr).mono ?_; rw [Hc.out]; rintro e w2 ⟨rfl, hb2⟩; have x0 := cell_up hb2 x0; have x1 := cell_up hb2 x1; have hB := below_up hB hb2; clear hb2))
  obtain ⟨W3, hW3⟩ : ∃ W3 : World, W3 = w2 := ⟨_, rfl⟩
  rw [← hW3] at x0 x1 hB ⊢
  clear hW3
  refine wp_region_abv (by kernel_rfl) (by kernel_rfl) ?_
  have X0 : ∀ t : Abv W3, t.val.cell? ⟨w.heap.size + 1, 0, none⟩ = some (.int .u64 a) := fun t => t.cell _ _ x0
  have X1 : ∀ t : Abv W3, t.val.cell? ⟨w.heap.size + 1, 1, none⟩ = some (.int .u64 b) := fun t => t.cell _ _ x1
  repeat (go_big_quiet_step ((first
    | (go_at_call_of 18 (Value.int .u64 c); exact Abv.call (Ho1.out ▸ over_c a c r _ ga c0 (by omega) gr))
    | (go_at_call 18; exact Abv.call (Ho2.out ▸ over_c a (c + 1) r _ ga (by omega) (by omega) gr)))))
  refine wpQuiet_nil ?_
  rintro _ ⟨t3, rfl⟩
  have hb2 := t3.prop
  (have x0 := cell_up hb2 x0; have x1 := cell_up hb2 x1; have hB := below_up hB hb2; clear hb2)
  clear X0 X1
  go_wp2_with fail
  refine (both_c a b a b _).mono ?_
  rw [HF.out, Hb1.out]
  rintro e w5 ⟨rfl, hb2⟩
  (have x0 := cell_up hb2 x0; have x1 := cell_up hb2 x1; have hB := below_up hB hb2; clear hb2)
  go_wp2_with (first
    | (go_at_call_of 11 (Value.int .u64 a); refine (inM_c _ _ _ _).mono ?_; rw [Hi1.out]; rintro e w6 ⟨rfl, hb2⟩; have hb2 := below_new hb2; have x0 := cell_up hb2 x0; have x1 := cell_up hb2 x1; have hB := below_up hB hb2; clear hb2)
    | (go_at_call_of 11 (Value.int .u64 b); refine (inM_c _ _ _ _).mono ?_; rw [Hi2.out]; rintro e w6 ⟨rfl, hb2⟩; have x0 := cell_up hb2 x0; have x1 := cell_up hb2 x1; have hB := below_up hB hb2; clear hb2)
    | (go_at_call 15; refine (works_c _).mono ?_; rintro e w6 ⟨rfl, hb2⟩; have x0 := cell_up hb2 x0; have x1 := cell_up hb2 x1; have hB := below_up hB hb2; clear hb2))
  go_ret
  exact ⟨rfl, hB⟩

set_option maxHeartbeats 4000000 in
set_option maxRecDepth 100000 in
theorem clockHolds_n00 (n0 n1 n2 a b r A B C : Int) (h : HoldsIn n0 n1 n2 A B C) (w : World) (g0 : 0 ≤ n0) (g1 : 0 ≤ n1) (g2 : 0 ≤ n2) (k1 : n1 ≤ 18446744073709551615) (k0 : n0 ≤ 18446744073709551615) (gA : 0 ≤ A) (gC : 0 ≤ C) (hAB : A ≤ B) (hB4 : B ≤ 4611686018427387903)
    (ga : 0 ≤ a) (gr : 0 ≤ r) (hA4 : A < 4611686018427387903)
    (hr : Clk.rightB a b = true) (r1 : r ≤ 18446744073709551615) (hab : a < b) (c : Int) (hc : Clk.carriesF a b r = c) (c0 : 0 ≤ c) (c1 : c ≤ 4611686018427387903) (cm0 : 0 < c) (cm1 : c < 4611686018427387903) (bF : decide (b < 4611686018427387903) = false) (ho1 : Clk.overF a c r = b) :
    Calls Try.prog 4 #[.agg #[.int .u64 n0, .int .u64 n1, .int .u64 n2], .agg #[.int .u64 a, .int .u64 b], .int .u64 r] w (Ret (.bool true) w) := by
  go_enter Try.func4, Try.ntmps4
  go_wp2
  obtain ⟨W, hW⟩ : ∃ W, W = (w.alloc (.cells #[.int .u64 n0, .int .u64 n1, .int .u64 n2] 33)).alloc (.cells #[.int .u64 a, .int .u64 b] 24) := ⟨_, rfl⟩
  have hB : Below w.heap.size w W := by rw [hW]; exact below_new (below_alloc _ _)
  have a0 : W.cell? ⟨w.heap.size, 0, none⟩ = some (.int .u64 n0) := by rw [hW]; simp [go_sem]
  have a1 : W.cell? ⟨w.heap.size, 1, none⟩ = some (.int .u64 n1) := by rw [hW]; simp [go_sem]
  have a2 : W.cell? ⟨w.heap.size, 2, none⟩ = some (.int .u64 n2) := by rw [hW]; simp [go_sem]
  have x0 : W.cell? ⟨w.heap.size + 1, 0, none⟩ = some (.int .u64 a) := by rw [hW]; simp [go_sem]
  have x1 : W.cell? ⟨w.heap.size + 1, 1, none⟩ = some (.int .u64 b) := by rw [hW]; simp [go_sem]
  rw [← hW]
  clear hW
  refine wp_region_abv (by kernel_rfl) (by kernel_rfl) ?_
  have A0 : ∀ t : Abv W, t.val.cell? ⟨w.heap.size, 0, none⟩ = some (.int .u64 n0) := fun t => t.cell _ _ a0
  have A1 : ∀ t : Abv W, t.val.cell? ⟨w.heap.size, 1, none⟩ = some (.int .u64 n1) := fun t => t.cell _ _ a1
  have A2 : ∀ t : Abv W, t.val.cell? ⟨w.heap.size, 2, none⟩ = some (.int .u64 n2) := fun t => t.cell _ _ a2
  repeat (go_big_quiet_step ((first
    | (go_at_call_of 16 (Value.int .u64 C); exact Abv.call (h.e3 ▸ add_c n0 C _ g0 gC))
    | (go_at_call_of 16 (Value.int .u64 n2); exact Abv.call (h.e2 ▸ add_c n1 n2 _ g1 g2))
    | (go_at_call 16; exact Abv.call (h.e1 ▸ add_c n0 n1 _ g0 g1)))))
  refine wpQuiet_nil ?_
  rintro _ ⟨t, rfl⟩
  have hb2 := t.prop
  (have a0 := cell_up hb2 a0; have a1 := cell_up hb2 a1; have a2 := cell_up hb2 a2; have x0 := cell_up hb2 x0; have x1 := cell_up hb2 x1; have hB := below_up hB hb2; clear hb2)
  clear A0 A1 A2
  go_wp2_with (first
    | (go_at_call_of 16 (Value.int .u64 n2); refine (h.e5 ▸ add_c A n2 _ gA g2 : Calls _ _ _ _ (Ret (.int .u64 B) _)).mono ?_; rintro e w2 ⟨rfl, hb2⟩; have a0 := cell_up hb2 a0; have a1 := cell_up hb2 a1; have a2 := cell_up hb2 a2; have x0 := cell_up hb2 x0; have x1 := cell_up hb2 x1; have hB := below_up hB hb2; clear hb2)
    | (go_at_call 16; refine (h.e4 ▸ add_c n1 n0 _ g1 g0 : Calls _ _ _ _ (Ret (.int .u64 A) _)).mono ?_; rintro e w2 ⟨rfl, hb2⟩; have a0 := cell_up hb2 a0; have a1 := cell_up hb2 a1; have a2 := cell_up hb2 a2; have x0 := cell_up hb2 x0; have x1 := cell_up hb2 x1; have hB := below_up hB hb2; clear hb2))
  obtain ⟨W2, hW2⟩ : ∃ W2 : World, W2 = w2 := ⟨_, rfl⟩
  rw [← hW2] at a0 a1 a2 x0 x1 hB ⊢
  clear hW2
  refine wp_region_abv (by kernel_rfl) (by kernel_rfl) ?_
  have A0 : ∀ t : Abv W2, t.val.cell? ⟨w.heap.size, 0, none⟩ = some (.int .u64 n0) := fun t => t.cell _ _ a0
  have A1 : ∀ t : Abv W2, t.val.cell? ⟨w.heap.size, 1, none⟩ = some (.int .u64 n1) := fun t => t.cell _ _ a1
  have hs1 := h.s1 hA4
  have hs2 := h.s2 hA4
  have Hs1 := Lib.hid hs1
  have Hs2 := Lib.hid hs2
  clear hs1 hs2
  repeat (go_big_quiet_step ((first
    | (go_at_call_of 17 (Value.int .u64 n1); exact Abv.same (Hs1.out ▸ sub_c A n1 _ gA g1 k1))
    | (go_at_call_of 17 (Value.int .u64 n0); exact Abv.same (Hs2.out ▸ sub_c A n0 _ gA g0 k0)))))
  refine wpQuiet_nil ?_
  rintro _ ⟨t2, rfl⟩
  have hb2 := t2.prop
  (have a0 := cell_up hb2 a0; have a1 := cell_up hb2 a1; have a2 := cell_up hb2 a2; have x0 := cell_up hb2 x0; have x1 := cell_up hb2 x1; have hB := below_up hB hb2; clear hb2)
  clear A0 A1
  obtain ⟨hb1, hb2, hi1, hi2⟩ := Clk.both_self a b hr
  rw [decide_eq_true hab] at hb1 hi1
  have hF := hb2 hab
  clear hb2
  have Hr := Lib.hid hr; have Hc := Lib.hid hc; have Hb1 := Lib.hid hb1; have HF := Lib.hid hF; have Hi1 := Lib.hid hi1; have Hi2 := Lib.hid hi2
  clear hr hc hb1 hF hi1 hi2 a0 a1 a2 h hAB hB4 gA gC hA4
  have Ho1 := Lib.hid ho1
  clear ho1
  go_wp2_with (first
    | (go_at_call 9; refine (right_c _ _ _).mono ?_; rw [Hr.out]; rintro e w2 ⟨rfl, hb2⟩; have x0 := cell_up hb2 x0; have x1 := cell_up hb2 x1; have hB := below_up hB hb2; clear hb2)
    | (go_at_call 13; refine (carries_c _ _ _ _ ga gr).mono ?_; rw [Hc.out]; rintro e w2 ⟨rfl, hb2⟩; have x0 := cell_up hb2 x0; have x1 := cell_up hb2 x1; have hB := below_up hB hb2; clear hb2))
  obtain ⟨W3, hW3⟩ : ∃ W3 : World, W3 = w2 := ⟨_, rfl⟩
  rw [← hW3] at x0 x1 hB ⊢
  clear hW3
  refine wp_region_abv (by kernel_rfl) (by kernel_rfl) ?_
  have X0 : ∀ t : Abv W3, t.val.cell? ⟨w.heap.size + 1, 0, none⟩ = some (.int .u64 a) := fun t => t.cell _ _ x0
  have X1 : ∀ t : Abv W3, t.val.cell? ⟨w.heap.size + 1, 1, none⟩ = some (.int .u64 b) := fun t => t.cell _ _ x1
  repeat (go_big_quiet_step ((first
    | (go_at_call_of 18 (Value.int .u64 c); exact Abv.call (Ho1.out ▸ over_c a c r _ ga c0 (by omega) gr))
    | (go_at_call 18; exact Abv.call ( over_c a (c + 1) r _ ga (by omega) (by omega) gr)))))
  refine wpQuiet_nil ?_
  rintro _ ⟨t3, rfl⟩
  have hb2 := t3.prop
  (have x0 := cell_up hb2 x0; have x1 := cell_up hb2 x1; have hB := below_up hB hb2; clear hb2)
  clear X0 X1
  go_wp2_with fail
  refine (both_c a b a b _).mono ?_
  rw [HF.out, Hb1.out]
  rintro e w5 ⟨rfl, hb2⟩
  (have x0 := cell_up hb2 x0; have x1 := cell_up hb2 x1; have hB := below_up hB hb2; clear hb2)
  go_wp2_with (first
    | (go_at_call_of 11 (Value.int .u64 a); refine (inM_c _ _ _ _).mono ?_; rw [Hi1.out]; rintro e w6 ⟨rfl, hb2⟩; have hb2 := below_new hb2; have x0 := cell_up hb2 x0; have x1 := cell_up hb2 x1; have hB := below_up hB hb2; clear hb2)
    | (go_at_call_of 11 (Value.int .u64 b); refine (inM_c _ _ _ _).mono ?_; rw [Hi2.out]; rintro e w6 ⟨rfl, hb2⟩; have x0 := cell_up hb2 x0; have x1 := cell_up hb2 x1; have hB := below_up hB hb2; clear hb2)
    | (go_at_call 15; refine (works_c _).mono ?_; rintro e w6 ⟨rfl, hb2⟩; have x0 := cell_up hb2 x0; have x1 := cell_up hb2 x1; have hB := below_up hB hb2; clear hb2))
  go_ret
  exact ⟨rfl, hB⟩

set_option maxHeartbeats 4000000 in
set_option maxRecDepth 100000 in
theorem clockHolds_z10 (n0 n1 n2 a b r A B C : Int) (h : HoldsIn n0 n1 n2 A B C) (w : World) (g0 : 0 ≤ n0) (g1 : 0 ≤ n1) (g2 : 0 ≤ n2) (k1 : n1 ≤ 18446744073709551615) (k0 : n0 ≤ 18446744073709551615) (gA : 0 ≤ A) (gC : 0 ≤ C) (hAB : A ≤ B) (hB4 : B ≤ 4611686018427387903)
    (ga : 0 ≤ a) (gr : 0 ≤ r) (hA4 : ¬ A < 4611686018427387903)
    (hr : Clk.rightB a b = true) (r1 : r ≤ 18446744073709551615) (hab : a < b) (c : Int) (hc : Clk.carriesF a b r = c) (c0 : 0 ≤ c) (c1 : c ≤ 4611686018427387903) (cz : c = 0) :
    Calls Try.prog 4 #[.agg #[.int .u64 n0, .int .u64 n1, .int .u64 n2], .agg #[.int .u64 a, .int .u64 b], .int .u64 r] w (Ret (.bool true) w) := by
  go_enter Try.func4, Try.ntmps4
  go_wp2
  obtain ⟨W, hW⟩ : ∃ W, W = (w.alloc (.cells #[.int .u64 n0, .int .u64 n1, .int .u64 n2] 33)).alloc (.cells #[.int .u64 a, .int .u64 b] 24) := ⟨_, rfl⟩
  have hB : Below w.heap.size w W := by rw [hW]; exact below_new (below_alloc _ _)
  have a0 : W.cell? ⟨w.heap.size, 0, none⟩ = some (.int .u64 n0) := by rw [hW]; simp [go_sem]
  have a1 : W.cell? ⟨w.heap.size, 1, none⟩ = some (.int .u64 n1) := by rw [hW]; simp [go_sem]
  have a2 : W.cell? ⟨w.heap.size, 2, none⟩ = some (.int .u64 n2) := by rw [hW]; simp [go_sem]
  have x0 : W.cell? ⟨w.heap.size + 1, 0, none⟩ = some (.int .u64 a) := by rw [hW]; simp [go_sem]
  have x1 : W.cell? ⟨w.heap.size + 1, 1, none⟩ = some (.int .u64 b) := by rw [hW]; simp [go_sem]
  rw [← hW]
  clear hW
  refine wp_region_abv (by kernel_rfl) (by kernel_rfl) ?_
  have A0 : ∀ t : Abv W, t.val.cell? ⟨w.heap.size, 0, none⟩ = some (.int .u64 n0) := fun t => t.cell _ _ a0
  have A1 : ∀ t : Abv W, t.val.cell? ⟨w.heap.size, 1, none⟩ = some (.int .u64 n1) := fun t => t.cell _ _ a1
  have A2 : ∀ t : Abv W, t.val.cell? ⟨w.heap.size, 2, none⟩ = some (.int .u64 n2) := fun t => t.cell _ _ a2
  repeat (go_big_quiet_step ((first
    | (go_at_call_of 16 (Value.int .u64 C); exact Abv.call (h.e3 ▸ add_c n0 C _ g0 gC))
    | (go_at_call_of 16 (Value.int .u64 n2); exact Abv.call (h.e2 ▸ add_c n1 n2 _ g1 g2))
    | (go_at_call 16; exact Abv.call (h.e1 ▸ add_c n0 n1 _ g0 g1)))))
  refine wpQuiet_nil ?_
  rintro _ ⟨t, rfl⟩
  have hb2 := t.prop
  (have a0 := cell_up hb2 a0; have a1 := cell_up hb2 a1; have a2 := cell_up hb2 a2; have x0 := cell_up hb2 x0; have x1 := cell_up hb2 x1; have hB := below_up hB hb2; clear hb2)
  clear A0 A1 A2
  go_wp2_with (first
    | (go_at_call_of 16 (Value.int .u64 n2); refine (h.e5 ▸ add_c A n2 _ gA g2 : Calls _ _ _ _ (Ret (.int .u64 B) _)).mono ?_; rintro e w2 ⟨rfl, hb2⟩; have a0 := cell_up hb2 a0; have a1 := cell_up hb2 a1; have a2 := cell_up hb2 a2; have x0 := cell_up hb2 x0; have x1 := cell_up hb2 x1; have hB := below_up hB hb2; clear hb2)
    | (go_at_call 16; refine (h.e4 ▸ add_c n1 n0 _ g1 g0 : Calls _ _ _ _ (Ret (.int .u64 A) _)).mono ?_; rintro e w2 ⟨rfl, hb2⟩; have a0 := cell_up hb2 a0; have a1 := cell_up hb2 a1; have a2 := cell_up hb2 a2; have x0 := cell_up hb2 x0; have x1 := cell_up hb2 x1; have hB := below_up hB hb2; clear hb2))
  obtain ⟨W2, hW2⟩ : ∃ W2 : World, W2 = w2 := ⟨_, rfl⟩
  rw [← hW2] at a0 a1 a2 x0 x1 hB ⊢
  clear hW2
  refine wp_region_abv (by kernel_rfl) (by kernel_rfl) ?_
  have A0 : ∀ t : Abv W2, t.val.cell? ⟨w.heap.size, 0, none⟩ = some (.int .u64 n0) := fun t => t.cell _ _ a0
  have A1 : ∀ t : Abv W2, t.val.cell? ⟨w.heap.size, 1, none⟩ = some (.int .u64 n1) := fun t => t.cell _ _ a1
  have hd : decide (A < 4611686018427387903) = false := decide_eq_false (by omega)
  repeat (go_big_quiet_step (fail))
  clear hd
  refine wpQuiet_nil ?_
  rintro _ ⟨t2, rfl⟩
  have hb2 := t2.prop
  (have a0 := cell_up hb2 a0; have a1 := cell_up hb2 a1; have a2 := cell_up hb2 a2; have x0 := cell_up hb2 x0; have x1 := cell_up hb2 x1; have hB := below_up hB hb2; clear hb2)
  clear A0 A1
  obtain ⟨hb1, hb2, hi1, hi2⟩ := Clk.both_self a b hr
  rw [decide_eq_true hab] at hb1 hi1
  have hF := hb2 hab
  clear hb2
  subst cz
  have Hr := Lib.hid hr; have Hc := Lib.hid hc; have Hb1 := Lib.hid hb1; have HF := Lib.hid hF; have Hi1 := Lib.hid hi1; have Hi2 := Lib.hid hi2
  clear hr hc hb1 hF hi1 hi2 a0 a1 a2 h hAB hB4 gA gC hA4
  go_wp2_with (first
    | (go_at_call 9; refine (right_c _ _ _).mono ?_; rw [Hr.out]; rintro e w2 ⟨rfl, hb2⟩; have x0 := cell_up hb2 x0; have x1 := cell_up hb2 x1; have hB := below_up hB hb2; clear hb2)
    | (go_at_call 13; refine (carries_c _ _ _ _ ga gr).mono ?_; rw [Hc.out]; rintro e w2 ⟨rfl, hb2⟩; have x0 := cell_up hb2 x0; have x1 := cell_up hb2 x1; have hB := below_up hB hb2; clear hb2))
  obtain ⟨W3, hW3⟩ : ∃ W3 : World, W3 = w2 := ⟨_, rfl⟩
  rw [← hW3] at x0 x1 hB ⊢
  clear hW3
  refine wp_region_abv (by kernel_rfl) (by kernel_rfl) ?_
  have X0 : ∀ t : Abv W3, t.val.cell? ⟨w.heap.size + 1, 0, none⟩ = some (.int .u64 a) := fun t => t.cell _ _ x0
  have X1 : ∀ t : Abv W3, t.val.cell? ⟨w.heap.size + 1, 1, none⟩ = some (.int .u64 b) := fun t => t.cell _ _ x1
  repeat (go_big_quiet_step (fail))
  refine wpQuiet_nil ?_
  rintro _ ⟨t3, rfl⟩
  have hb2 := t3.prop
  (have x0 := cell_up hb2 x0; have x1 := cell_up hb2 x1; have hB := below_up hB hb2; clear hb2)
  clear X0 X1
  go_wp2_with fail
  refine (both_c a b a b _).mono ?_
  rw [HF.out, Hb1.out]
  rintro e w5 ⟨rfl, hb2⟩
  (have x0 := cell_up hb2 x0; have x1 := cell_up hb2 x1; have hB := below_up hB hb2; clear hb2)
  go_wp2_with (first
    | (go_at_call_of 11 (Value.int .u64 a); refine (inM_c _ _ _ _).mono ?_; rw [Hi1.out]; rintro e w6 ⟨rfl, hb2⟩; have hb2 := below_new hb2; have x0 := cell_up hb2 x0; have x1 := cell_up hb2 x1; have hB := below_up hB hb2; clear hb2)
    | (go_at_call_of 11 (Value.int .u64 b); refine (inM_c _ _ _ _).mono ?_; rw [Hi2.out]; rintro e w6 ⟨rfl, hb2⟩; have x0 := cell_up hb2 x0; have x1 := cell_up hb2 x1; have hB := below_up hB hb2; clear hb2)
    | (go_at_call 15; refine (works_c _).mono ?_; rintro e w6 ⟨rfl, hb2⟩; have x0 := cell_up hb2 x0; have x1 := cell_up hb2 x1; have hB := below_up hB hb2; clear hb2))
  go_ret
  exact ⟨rfl, hB⟩

set_option maxHeartbeats 4000000 in
set_option maxRecDepth 100000 in
theorem clockHolds_z11 (n0 n1 n2 a b r A B C : Int) (h : HoldsIn n0 n1 n2 A B C) (w : World) (g0 : 0 ≤ n0) (g1 : 0 ≤ n1) (g2 : 0 ≤ n2) (k1 : n1 ≤ 18446744073709551615) (k0 : n0 ≤ 18446744073709551615) (gA : 0 ≤ A) (gC : 0 ≤ C) (hAB : A ≤ B) (hB4 : B ≤ 4611686018427387903)
    (ga : 0 ≤ a) (gr : 0 ≤ r) (hA4 : ¬ A < 4611686018427387903)
    (hr : Clk.rightB a b = true) (r1 : r ≤ 18446744073709551615) (hab : decide (a < b) = false) (c : Int) (hc : Clk.carriesF a b r = c) (c0 : 0 ≤ c) (c1 : c ≤ 4611686018427387903) (cz : c = 0) :
    Calls Try.prog 4 #[.agg #[.int .u64 n0, .int .u64 n1, .int .u64 n2], .agg #[.int .u64 a, .int .u64 b], .int .u64 r] w (Ret (.bool true) w) := by
  go_enter Try.func4, Try.ntmps4
  go_wp2
  obtain ⟨W, hW⟩ : ∃ W, W = (w.alloc (.cells #[.int .u64 n0, .int .u64 n1, .int .u64 n2] 33)).alloc (.cells #[.int .u64 a, .int .u64 b] 24) := ⟨_, rfl⟩
  have hB : Below w.heap.size w W := by rw [hW]; exact below_new (below_alloc _ _)
  have a0 : W.cell? ⟨w.heap.size, 0, none⟩ = some (.int .u64 n0) := by rw [hW]; simp [go_sem]
  have a1 : W.cell? ⟨w.heap.size, 1, none⟩ = some (.int .u64 n1) := by rw [hW]; simp [go_sem]
  have a2 : W.cell? ⟨w.heap.size, 2, none⟩ = some (.int .u64 n2) := by rw [hW]; simp [go_sem]
  have x0 : W.cell? ⟨w.heap.size + 1, 0, none⟩ = some (.int .u64 a) := by rw [hW]; simp [go_sem]
  have x1 : W.cell? ⟨w.heap.size + 1, 1, none⟩ = some (.int .u64 b) := by rw [hW]; simp [go_sem]
  rw [← hW]
  clear hW
  refine wp_region_abv (by kernel_rfl) (by kernel_rfl) ?_
  have A0 : ∀ t : Abv W, t.val.cell? ⟨w.heap.size, 0, none⟩ = some (.int .u64 n0) := fun t => t.cell _ _ a0
  have A1 : ∀ t : Abv W, t.val.cell? ⟨w.heap.size, 1, none⟩ = some (.int .u64 n1) := fun t => t.cell _ _ a1
  have A2 : ∀ t : Abv W, t.val.cell? ⟨w.heap.size, 2, none⟩ = some (.int .u64 n2) := fun t => t.cell _ _ a2
  repeat (go_big_quiet_step ((first
    | (go_at_call_of 16 (Value.int .u64 C); exact Abv.call (h.e3 ▸ add_c n0 C _ g0 gC))
    | (go_at_call_of 16 (Value.int .u64 n2); exact Abv.call (h.e2 ▸ add_c n1 n2 _ g1 g2))
    | (go_at_call 16; exact Abv.call (h.e1 ▸ add_c n0 n1 _ g0 g1)))))
  refine wpQuiet_nil ?_
  rintro _ ⟨t, rfl⟩
  have hb2 := t.prop
  (have a0 := cell_up hb2 a0; have a1 := cell_up hb2 a1; have a2 := cell_up hb2 a2; have x0 := cell_up hb2 x0; have x1 := cell_up hb2 x1; have hB := below_up hB hb2; clear hb2)
  clear A0 A1 A2
  go_wp2_with (first
    | (go_at_call_of 16 (Value.int .u64 n2); refine (h.e5 ▸ add_c A n2 _ gA g2 : Calls _ _ _ _ (Ret (.int .u64 B) _)).mono ?_; rintro e w2 ⟨rfl, hb2⟩; have a0 := cell_up hb2 a0; have a1 := cell_up hb2 a1; have a2 := cell_up hb2 a2; have x0 := cell_up hb2 x0; have x1 := cell_up hb2 x1; have hB := below_up hB hb2; clear hb2)
    | (go_at_call 16; refine (h.e4 ▸ add_c n1 n0 _ g1 g0 : Calls _ _ _ _ (Ret (.int .u64 A) _)).mono ?_; rintro e w2 ⟨rfl, hb2⟩; have a0 := cell_up hb2 a0; have a1 := cell_up hb2 a1; have a2 := cell_up hb2 a2; have x0 := cell_up hb2 x0; have x1 := cell_up hb2 x1; have hB := below_up hB hb2; clear hb2))
  obtain ⟨W2, hW2⟩ : ∃ W2 : World, W2 = w2 := ⟨_, rfl⟩
  rw [← hW2] at a0 a1 a2 x0 x1 hB ⊢
  clear hW2
  refine wp_region_abv (by kernel_rfl) (by kernel_rfl) ?_
  have A0 : ∀ t : Abv W2, t.val.cell? ⟨w.heap.size, 0, none⟩ = some (.int .u64 n0) := fun t => t.cell _ _ a0
  have A1 : ∀ t : Abv W2, t.val.cell? ⟨w.heap.size, 1, none⟩ = some (.int .u64 n1) := fun t => t.cell _ _ a1
  have hd : decide (A < 4611686018427387903) = false := decide_eq_false (by omega)
  repeat (go_big_quiet_step (fail))
  clear hd
  refine wpQuiet_nil ?_
  rintro _ ⟨t2, rfl⟩
  have hb2 := t2.prop
  (have a0 := cell_up hb2 a0; have a1 := cell_up hb2 a1; have a2 := cell_up hb2 a2; have x0 := cell_up hb2 x0; have x1 := cell_up hb2 x1; have hB := below_up hB hb2; clear hb2)
  clear A0 A1
  obtain ⟨hb1, hb2, hi1, hi2⟩ := Clk.both_self a b hr
  rw [hab] at hb1 hi1
  have hF : Clk.bothF a b a b = .agg #[.int .u64 0, .int .u64 0] := by unfold Clk.bothF; rw [hb1]; rfl
  clear hb2
  subst cz
  have Hr := Lib.hid hr; have Hc := Lib.hid hc; have Hb1 := Lib.hid hb1; have HF := Lib.hid hF; have Hi1 := Lib.hid hi1; have Hi2 := Lib.hid hi2
  clear hr hc hb1 hF hi1 hi2 a0 a1 a2 h hAB hB4 gA gC hA4
  go_wp2_with (first
    | (go_at_call 9; refine (right_c _ _ _).mono ?_; rw [Hr.out]; rintro e w2 ⟨rfl, hb2⟩; have x0 := cell_up hb2 x0; have x1 := cell_up hb2 x1; have hB := below_up hB hb2; clear hb2)
    | (go_at_call 13; refine (carries_c _ _ _ _ ga gr).mono ?_; rw [Hc.out]; rintro e w2 ⟨rfl, hb2⟩; have x0 := cell_up hb2 x0; have x1 := cell_up hb2 x1; have hB := below_up hB hb2; clear hb2))
  obtain ⟨W3, hW3⟩ : ∃ W3 : World, W3 = w2 := ⟨_, rfl⟩
  rw [← hW3] at x0 x1 hB ⊢
  clear hW3
  refine wp_region_abv (by kernel_rfl) (by kernel_rfl) ?_
  have X0 : ∀ t : Abv W3, t.val.cell? ⟨w.heap.size + 1, 0, none⟩ = some (.int .u64 a) := fun t => t.cell _ _ x0
  have X1 : ∀ t : Abv W3, t.val.cell? ⟨w.heap.size + 1, 1, none⟩ = some (.int .u64 b) := fun t => t.cell _ _ x1
  repeat (go_big_quiet_step (fail))
  refine wpQuiet_nil ?_
  rintro _ ⟨t3, rfl⟩
  have hb2 := t3.prop
  (have x0 := cell_up hb2 x0; have x1 := cell_up hb2 x1; have hB := below_up hB hb2; clear hb2)
  clear X0 X1
  go_wp2_with fail
  refine (both_c a b a b _).mono ?_
  rw [HF.out, Hb1.out]
  rintro e w5 ⟨rfl, hb2⟩
  (have x0 := cell_up hb2 x0; have x1 := cell_up hb2 x1; have hB := below_up hB hb2; clear hb2)
  go_wp2_with (first
    | (go_at_call_of 11 (Value.int .u64 a); refine (inM_c _ _ _ _).mono ?_; rw [Hi1.out]; rintro e w6 ⟨rfl, hb2⟩; have hb2 := below_new hb2; have x0 := cell_up hb2 x0; have x1 := cell_up hb2 x1; have hB := below_up hB hb2; clear hb2)
    | (go_at_call_of 11 (Value.int .u64 b); refine (inM_c _ _ _ _).mono ?_; rw [Hi2.out]; rintro e w6 ⟨rfl, hb2⟩; have x0 := cell_up hb2 x0; have x1 := cell_up hb2 x1; have hB := below_up hB hb2; clear hb2)
    | (go_at_call 15; refine (works_c _).mono ?_; rintro e w6 ⟨rfl, hb2⟩; have x0 := cell_up hb2 x0; have x1 := cell_up hb2 x1; have hB := below_up hB hb2; clear hb2))
  go_ret
  exact ⟨rfl, hB⟩

set_option maxHeartbeats 4000000 in
set_option maxRecDepth 100000 in
theorem clockHolds_f10 (n0 n1 n2 a b r A B C : Int) (h : HoldsIn n0 n1 n2 A B C) (w : World) (g0 : 0 ≤ n0) (g1 : 0 ≤ n1) (g2 : 0 ≤ n2) (k1 : n1 ≤ 18446744073709551615) (k0 : n0 ≤ 18446744073709551615) (gA : 0 ≤ A) (gC : 0 ≤ C) (hAB : A ≤ B) (hB4 : B ≤ 4611686018427387903)
    (ga : 0 ≤ a) (gr : 0 ≤ r) (hA4 : ¬ A < 4611686018427387903)
    (hr : Clk.rightB a b = true) (r1 : r ≤ 18446744073709551615) (hab : a < b) (c : Int) (hc : Clk.carriesF a b r = c) (c0 : 0 ≤ c) (c1 : c ≤ 4611686018427387903) (cf : c = 4611686018427387903) :
    Calls Try.prog 4 #[.agg #[.int .u64 n0, .int .u64 n1, .int .u64 n2], .agg #[.int .u64 a, .int .u64 b], .int .u64 r] w (Ret (.bool true) w) := by
  go_enter Try.func4, Try.ntmps4
  go_wp2
  obtain ⟨W, hW⟩ : ∃ W, W = (w.alloc (.cells #[.int .u64 n0, .int .u64 n1, .int .u64 n2] 33)).alloc (.cells #[.int .u64 a, .int .u64 b] 24) := ⟨_, rfl⟩
  have hB : Below w.heap.size w W := by rw [hW]; exact below_new (below_alloc _ _)
  have a0 : W.cell? ⟨w.heap.size, 0, none⟩ = some (.int .u64 n0) := by rw [hW]; simp [go_sem]
  have a1 : W.cell? ⟨w.heap.size, 1, none⟩ = some (.int .u64 n1) := by rw [hW]; simp [go_sem]
  have a2 : W.cell? ⟨w.heap.size, 2, none⟩ = some (.int .u64 n2) := by rw [hW]; simp [go_sem]
  have x0 : W.cell? ⟨w.heap.size + 1, 0, none⟩ = some (.int .u64 a) := by rw [hW]; simp [go_sem]
  have x1 : W.cell? ⟨w.heap.size + 1, 1, none⟩ = some (.int .u64 b) := by rw [hW]; simp [go_sem]
  rw [← hW]
  clear hW
  refine wp_region_abv (by kernel_rfl) (by kernel_rfl) ?_
  have A0 : ∀ t : Abv W, t.val.cell? ⟨w.heap.size, 0, none⟩ = some (.int .u64 n0) := fun t => t.cell _ _ a0
  have A1 : ∀ t : Abv W, t.val.cell? ⟨w.heap.size, 1, none⟩ = some (.int .u64 n1) := fun t => t.cell _ _ a1
  have A2 : ∀ t : Abv W, t.val.cell? ⟨w.heap.size, 2, none⟩ = some (.int .u64 n2) := fun t => t.cell _ _ a2
  repeat (go_big_quiet_step ((first
    | (go_at_call_of 16 (Value.int .u64 C); exact Abv.call (h.e3 ▸ add_c n0 C _ g0 gC))
    | (go_at_call_of 16 (Value.int .u64 n2); exact Abv.call (h.e2 ▸ add_c n1 n2 _ g1 g2))
    | (go_at_call 16; exact Abv.call (h.e1 ▸ add_c n0 n1 _ g0 g1)))))
  refine wpQuiet_nil ?_
  rintro _ ⟨t, rfl⟩
  have hb2 := t.prop
  (have a0 := cell_up hb2 a0; have a1 := cell_up hb2 a1; have a2 := cell_up hb2 a2; have x0 := cell_up hb2 x0; have x1 := cell_up hb2 x1; have hB := below_up hB hb2; clear hb2)
  clear A0 A1 A2
  go_wp2_with (first
    | (go_at_call_of 16 (Value.int .u64 n2); refine (h.e5 ▸ add_c A n2 _ gA g2 : Calls _ _ _ _ (Ret (.int .u64 B) _)).mono ?_; rintro e w2 ⟨rfl, hb2⟩; have a0 := cell_up hb2 a0; have a1 := cell_up hb2 a1; have a2 := cell_up hb2 a2; have x0 := cell_up hb2 x0; have x1 := cell_up hb2 x1; have hB := below_up hB hb2; clear hb2)
    | (go_at_call 16; refine (h.e4 ▸ add_c n1 n0 _ g1 g0 : Calls _ _ _ _ (Ret (.int .u64 A) _)).mono ?_; rintro e w2 ⟨rfl, hb2⟩; have a0 := cell_up hb2 a0; have a1 := cell_up hb2 a1; have a2 := cell_up hb2 a2; have x0 := cell_up hb2 x0; have x1 := cell_up hb2 x1; have hB := below_up hB hb2; clear hb2))
  obtain ⟨W2, hW2⟩ : ∃ W2 : World, W2 = w2 := ⟨_, rfl⟩
  rw [← hW2] at a0 a1 a2 x0 x1 hB ⊢
  clear hW2
  refine wp_region_abv (by kernel_rfl) (by kernel_rfl) ?_
  have A0 : ∀ t : Abv W2, t.val.cell? ⟨w.heap.size, 0, none⟩ = some (.int .u64 n0) := fun t => t.cell _ _ a0
  have A1 : ∀ t : Abv W2, t.val.cell? ⟨w.heap.size, 1, none⟩ = some (.int .u64 n1) := fun t => t.cell _ _ a1
  have hd : decide (A < 4611686018427387903) = false := decide_eq_false (by omega)
  repeat (go_big_quiet_step (fail))
  clear hd
  refine wpQuiet_nil ?_
  rintro _ ⟨t2, rfl⟩
  have hb2 := t2.prop
  (have a0 := cell_up hb2 a0; have a1 := cell_up hb2 a1; have a2 := cell_up hb2 a2; have x0 := cell_up hb2 x0; have x1 := cell_up hb2 x1; have hB := below_up hB hb2; clear hb2)
  clear A0 A1
  obtain ⟨hb1, hb2, hi1, hi2⟩ := Clk.both_self a b hr
  rw [decide_eq_true hab] at hb1 hi1
  have hF := hb2 hab
  clear hb2
  subst cf
  have Hr := Lib.hid hr; have Hc := Lib.hid hc; have Hb1 := Lib.hid hb1; have HF := Lib.hid hF; have Hi1 := Lib.hid hi1; have Hi2 := Lib.hid hi2
  clear hr hc hb1 hF hi1 hi2 a0 a1 a2 h hAB hB4 gA gC hA4
  go_wp2_with (first
    | (go_at_call 9; refine (right_c _ _ _).mono ?_; rw [Hr.out]; rintro e w2 ⟨rfl, hb2⟩; have x0 := cell_up hb2 x0; have x1 := cell_up hb2 x1; have hB := below_up hB hb2; clear hb2)
    | (go_at_call 13; refine (carries_c _ _ _ _ ga gr).mono ?_; rw [Hc.out]; rintro e w2 ⟨rfl, hb2⟩; have x0 := cell_up hb2 x0; have x1 := cell_up hb2 x1; have hB := below_up hB hb2; clear hb2))
  obtain ⟨W3, hW3⟩ : ∃ W3 : World, W3 = w2 := ⟨_, rfl⟩
  rw [← hW3] at x0 x1 hB ⊢
  clear hW3
  refine wp_region_abv (by kernel_rfl) (by kernel_rfl) ?_
  have X0 : ∀ t : Abv W3, t.val.cell? ⟨w.heap.size + 1, 0, none⟩ = some (.int .u64 a) := fun t => t.cell _ _ x0
  have X1 : ∀ t : Abv W3, t.val.cell? ⟨w.heap.size + 1, 1, none⟩ = some (.int .u64 b) := fun t => t.cell _ _ x1
  repeat (go_big_quiet_step (fail))
  refine wpQuiet_nil ?_
  rintro _ ⟨t3, rfl⟩
  have hb2 := t3.prop
  (have x0 := cell_up hb2 x0; have x1 := cell_up hb2 x1; have hB := below_up hB hb2; clear hb2)
  clear X0 X1
  go_wp2_with fail
  refine (both_c a b a b _).mono ?_
  rw [HF.out, Hb1.out]
  rintro e w5 ⟨rfl, hb2⟩
  (have x0 := cell_up hb2 x0; have x1 := cell_up hb2 x1; have hB := below_up hB hb2; clear hb2)
  go_wp2_with (first
    | (go_at_call_of 11 (Value.int .u64 a); refine (inM_c _ _ _ _).mono ?_; rw [Hi1.out]; rintro e w6 ⟨rfl, hb2⟩; have hb2 := below_new hb2; have x0 := cell_up hb2 x0; have x1 := cell_up hb2 x1; have hB := below_up hB hb2; clear hb2)
    | (go_at_call_of 11 (Value.int .u64 b); refine (inM_c _ _ _ _).mono ?_; rw [Hi2.out]; rintro e w6 ⟨rfl, hb2⟩; have x0 := cell_up hb2 x0; have x1 := cell_up hb2 x1; have hB := below_up hB hb2; clear hb2)
    | (go_at_call 15; refine (works_c _).mono ?_; rintro e w6 ⟨rfl, hb2⟩; have x0 := cell_up hb2 x0; have x1 := cell_up hb2 x1; have hB := below_up hB hb2; clear hb2))
  go_ret
  exact ⟨rfl, hB⟩

set_option maxHeartbeats 4000000 in
set_option maxRecDepth 100000 in
theorem clockHolds_m10 (n0 n1 n2 a b r A B C : Int) (h : HoldsIn n0 n1 n2 A B C) (w : World) (g0 : 0 ≤ n0) (g1 : 0 ≤ n1) (g2 : 0 ≤ n2) (k1 : n1 ≤ 18446744073709551615) (k0 : n0 ≤ 18446744073709551615) (gA : 0 ≤ A) (gC : 0 ≤ C) (hAB : A ≤ B) (hB4 : B ≤ 4611686018427387903)
    (ga : 0 ≤ a) (gr : 0 ≤ r) (hA4 : ¬ A < 4611686018427387903)
    (hr : Clk.rightB a b = true) (r1 : r ≤ 18446744073709551615) (hab : a < b) (c : Int) (hc : Clk.carriesF a b r = c) (c0 : 0 ≤ c) (c1 : c ≤ 4611686018427387903) (cm0 : 0 < c) (cm1 : c < 4611686018427387903) (bF : b < 4611686018427387903) (ho1 : Clk.overF a c r = b) (ho2 : Clk.overF a (c + 1) r = b + 1) :
    Calls Try.prog 4 #[.agg #[.int .u64 n0, .int .u64 n1, .int .u64 n2], .agg #[.int .u64 a, .int .u64 b], .int .u64 r] w (Ret (.bool true) w) := by
  go_enter Try.func4, Try.ntmps4
  go_wp2
  obtain ⟨W, hW⟩ : ∃ W, W = (w.alloc (.cells #[.int .u64 n0, .int .u64 n1, .int .u64 n2] 33)).alloc (.cells #[.int .u64 a, .int .u64 b] 24) := ⟨_, rfl⟩
  have hB : Below w.heap.size w W := by rw [hW]; exact below_new (below_alloc _ _)
  have a0 : W.cell? ⟨w.heap.size, 0, none⟩ = some (.int .u64 n0) := by rw [hW]; simp [go_sem]
  have a1 : W.cell? ⟨w.heap.size, 1, none⟩ = some (.int .u64 n1) := by rw [hW]; simp [go_sem]
  have a2 : W.cell? ⟨w.heap.size, 2, none⟩ = some (.int .u64 n2) := by rw [hW]; simp [go_sem]
  have x0 : W.cell? ⟨w.heap.size + 1, 0, none⟩ = some (.int .u64 a) := by rw [hW]; simp [go_sem]
  have x1 : W.cell? ⟨w.heap.size + 1, 1, none⟩ = some (.int .u64 b) := by rw [hW]; simp [go_sem]
  rw [← hW]
  clear hW
  refine wp_region_abv (by kernel_rfl) (by kernel_rfl) ?_
  have A0 : ∀ t : Abv W, t.val.cell? ⟨w.heap.size, 0, none⟩ = some (.int .u64 n0) := fun t => t.cell _ _ a0
  have A1 : ∀ t : Abv W, t.val.cell? ⟨w.heap.size, 1, none⟩ = some (.int .u64 n1) := fun t => t.cell _ _ a1
  have A2 : ∀ t : Abv W, t.val.cell? ⟨w.heap.size, 2, none⟩ = some (.int .u64 n2) := fun t => t.cell _ _ a2
  repeat (go_big_quiet_step ((first
    | (go_at_call_of 16 (Value.int .u64 C); exact Abv.call (h.e3 ▸ add_c n0 C _ g0 gC))
    | (go_at_call_of 16 (Value.int .u64 n2); exact Abv.call (h.e2 ▸ add_c n1 n2 _ g1 g2))
    | (go_at_call 16; exact Abv.call (h.e1 ▸ add_c n0 n1 _ g0 g1)))))
  refine wpQuiet_nil ?_
  rintro _ ⟨t, rfl⟩
  have hb2 := t.prop
  (have a0 := cell_up hb2 a0; have a1 := cell_up hb2 a1; have a2 := cell_up hb2 a2; have x0 := cell_up hb2 x0; have x1 := cell_up hb2 x1; have hB := below_up hB hb2; clear hb2)
  clear A0 A1 A2
  go_wp2_with (first
    | (go_at_call_of 16 (Value.int .u64 n2); refine (h.e5 ▸ add_c A n2 _ gA g2 : Calls _ _ _ _ (Ret (.int .u64 B) _)).mono ?_; rintro e w2 ⟨rfl, hb2⟩; have a0 := cell_up hb2 a0; have a1 := cell_up hb2 a1; have a2 := cell_up hb2 a2; have x0 := cell_up hb2 x0; have x1 := cell_up hb2 x1; have hB := below_up hB hb2; clear hb2)
    | (go_at_call 16; refine (h.e4 ▸ add_c n1 n0 _ g1 g0 : Calls _ _ _ _ (Ret (.int .u64 A) _)).mono ?_; rintro e w2 ⟨rfl, hb2⟩; have a0 := cell_up hb2 a0; have a1 := cell_up hb2 a1; have a2 := cell_up hb2 a2; have x0 := cell_up hb2 x0; have x1 := cell_up hb2 x1; have hB := below_up hB hb2; clear hb2))
  obtain ⟨W2, hW2⟩ : ∃ W2 : World, W2 = w2 := ⟨_, rfl⟩
  rw [← hW2] at a0 a1 a2 x0 x1 hB ⊢
  clear hW2
  refine wp_region_abv (by kernel_rfl) (by kernel_rfl) ?_
  have A0 : ∀ t : Abv W2, t.val.cell? ⟨w.heap.size, 0, none⟩ = some (.int .u64 n0) := fun t => t.cell _ _ a0
  have A1 : ∀ t : Abv W2, t.val.cell? ⟨w.heap.size, 1, none⟩ = some (.int .u64 n1) := fun t => t.cell _ _ a1
  have hd : decide (A < 4611686018427387903) = false := decide_eq_false (by omega)
  repeat (go_big_quiet_step (fail))
  clear hd
  refine wpQuiet_nil ?_
  rintro _ ⟨t2, rfl⟩
  have hb2 := t2.prop
  (have a0 := cell_up hb2 a0; have a1 := cell_up hb2 a1; have a2 := cell_up hb2 a2; have x0 := cell_up hb2 x0; have x1 := cell_up hb2 x1; have hB := below_up hB hb2; clear hb2)
  clear A0 A1
  obtain ⟨hb1, hb2, hi1, hi2⟩ := Clk.both_self a b hr
  rw [decide_eq_true hab] at hb1 hi1
  have hF := hb2 hab
  clear hb2
  have Hr := Lib.hid hr; have Hc := Lib.hid hc; have Hb1 := Lib.hid hb1; have HF := Lib.hid hF; have Hi1 := Lib.hid hi1; have Hi2 := Lib.hid hi2
  clear hr hc hb1 hF hi1 hi2 a0 a1 a2 h hAB hB4 gA gC hA4
  have Ho1 := Lib.hid ho1; have Ho2 := Lib.hid ho2
  clear ho1 ho2
  go_wp2_with (first
    | (go_at_call 9; refine (right_c _ _ _).mono ?_; rw [Hr.out]; rintro e w2 ⟨rfl, hb2⟩; have x0 := cell_up hb2 x0; have x1 := cell_up hb2 x1; have hB := below_up hB hb2; clear hb2)
    | (go_at_call 13; refine (carries_c _ _ _ _ ga gr).mono ?_; rw [Hc.out]; rintro e w2 ⟨rfl, hb2⟩; have x0 := cell_up hb2 x0; have x1 := cell_up hb2 x1; have hB := below_up hB hb2; clear hb2))
  obtain ⟨W3, hW3⟩ : ∃ W3 : World, W3 = w2 := ⟨_, rfl⟩
  rw [← hW3] at x0 x1 hB ⊢
  clear hW3
  refine wp_region_abv (by kernel_rfl) (by kernel_rfl) ?_
  have X0 : ∀ t : Abv W3, t.val.cell? ⟨w.heap.size + 1, 0, none⟩ = some (.int .u64 a) := fun t => t.cell _ _ x0
  have X1 : ∀ t : Abv W3, t.val.cell? ⟨w.heap.size + 1, 1, none⟩ = some (.int .u64 b) := fun t => t.cell _ _ x1
  repeat (go_big_quiet_step ((first
    | (go_at_call_of 18 (Value.int .u64 c); exact Abv.call (Ho1.out ▸ over_c a c r _ ga c0 (by omega) gr))
    | (go_at_call 18; exact Abv.call (Ho2.out ▸ over_c a (c + 1) r _ ga (by omega) (by omega) gr)))))
  refine wpQuiet_nil ?_
  rintro _ ⟨t3, rfl⟩
  have hb2 := t3.prop
  (have x0 := cell_up hb2 x0; have x1 := cell_up hb2 x1; have hB := below_up hB hb2; clear hb2)
  clear X0 X1
  go_wp2_with fail
  refine (both_c a b a b _).mono ?_
  rw [HF.out, Hb1.out]
  rintro e w5 ⟨rfl, hb2⟩
  (have x0 := cell_up hb2 x0; have x1 := cell_up hb2 x1; have hB := below_up hB hb2; clear hb2)
  go_wp2_with (first
    | (go_at_call_of 11 (Value.int .u64 a); refine (inM_c _ _ _ _).mono ?_; rw [Hi1.out]; rintro e w6 ⟨rfl, hb2⟩; have hb2 := below_new hb2; have x0 := cell_up hb2 x0; have x1 := cell_up hb2 x1; have hB := below_up hB hb2; clear hb2)
    | (go_at_call_of 11 (Value.int .u64 b); refine (inM_c _ _ _ _).mono ?_; rw [Hi2.out]; rintro e w6 ⟨rfl, hb2⟩; have x0 := cell_up hb2 x0; have x1 := cell_up hb2 x1; have hB := below_up hB hb2; clear hb2)
    | (go_at_call 15; refine (works_c _).mono ?_; rintro e w6 ⟨rfl, hb2⟩; have x0 := cell_up hb2 x0; have x1 := cell_up hb2 x1; have hB := below_up hB hb2; clear hb2))
  go_ret
  exact ⟨rfl, hB⟩

set_option maxHeartbeats 4000000 in
set_option maxRecDepth 100000 in
theorem clockHolds_n10 (n0 n1 n2 a b r A B C : Int) (h : HoldsIn n0 n1 n2 A B C) (w : World) (g0 : 0 ≤ n0) (g1 : 0 ≤ n1) (g2 : 0 ≤ n2) (k1 : n1 ≤ 18446744073709551615) (k0 : n0 ≤ 18446744073709551615) (gA : 0 ≤ A) (gC : 0 ≤ C) (hAB : A ≤ B) (hB4 : B ≤ 4611686018427387903)
    (ga : 0 ≤ a) (gr : 0 ≤ r) (hA4 : ¬ A < 4611686018427387903)
    (hr : Clk.rightB a b = true) (r1 : r ≤ 18446744073709551615) (hab : a < b) (c : Int) (hc : Clk.carriesF a b r = c) (c0 : 0 ≤ c) (c1 : c ≤ 4611686018427387903) (cm0 : 0 < c) (cm1 : c < 4611686018427387903) (bF : decide (b < 4611686018427387903) = false) (ho1 : Clk.overF a c r = b) :
    Calls Try.prog 4 #[.agg #[.int .u64 n0, .int .u64 n1, .int .u64 n2], .agg #[.int .u64 a, .int .u64 b], .int .u64 r] w (Ret (.bool true) w) := by
  go_enter Try.func4, Try.ntmps4
  go_wp2
  obtain ⟨W, hW⟩ : ∃ W, W = (w.alloc (.cells #[.int .u64 n0, .int .u64 n1, .int .u64 n2] 33)).alloc (.cells #[.int .u64 a, .int .u64 b] 24) := ⟨_, rfl⟩
  have hB : Below w.heap.size w W := by rw [hW]; exact below_new (below_alloc _ _)
  have a0 : W.cell? ⟨w.heap.size, 0, none⟩ = some (.int .u64 n0) := by rw [hW]; simp [go_sem]
  have a1 : W.cell? ⟨w.heap.size, 1, none⟩ = some (.int .u64 n1) := by rw [hW]; simp [go_sem]
  have a2 : W.cell? ⟨w.heap.size, 2, none⟩ = some (.int .u64 n2) := by rw [hW]; simp [go_sem]
  have x0 : W.cell? ⟨w.heap.size + 1, 0, none⟩ = some (.int .u64 a) := by rw [hW]; simp [go_sem]
  have x1 : W.cell? ⟨w.heap.size + 1, 1, none⟩ = some (.int .u64 b) := by rw [hW]; simp [go_sem]
  rw [← hW]
  clear hW
  refine wp_region_abv (by kernel_rfl) (by kernel_rfl) ?_
  have A0 : ∀ t : Abv W, t.val.cell? ⟨w.heap.size, 0, none⟩ = some (.int .u64 n0) := fun t => t.cell _ _ a0
  have A1 : ∀ t : Abv W, t.val.cell? ⟨w.heap.size, 1, none⟩ = some (.int .u64 n1) := fun t => t.cell _ _ a1
  have A2 : ∀ t : Abv W, t.val.cell? ⟨w.heap.size, 2, none⟩ = some (.int .u64 n2) := fun t => t.cell _ _ a2
  repeat (go_big_quiet_step ((first
    | (go_at_call_of 16 (Value.int .u64 C); exact Abv.call (h.e3 ▸ add_c n0 C _ g0 gC))
    | (go_at_call_of 16 (Value.int .u64 n2); exact Abv.call (h.e2 ▸ add_c n1 n2 _ g1 g2))
    | (go_at_call 16; exact Abv.call (h.e1 ▸ add_c n0 n1 _ g0 g1)))))
  refine wpQuiet_nil ?_
  rintro _ ⟨t, rfl⟩
  have hb2 := t.prop
  (have a0 := cell_up hb2 a0; have a1 := cell_up hb2 a1; have a2 := cell_up hb2 a2; have x0 := cell_up hb2 x0; have x1 := cell_up hb2 x1; have hB := below_up hB hb2; clear hb2)
  clear A0 A1 A2
  go_wp2_with (first
    | (go_at_call_of 16 (Value.int .u64 n2); refine (h.e5 ▸ add_c A n2 _ gA g2 : Calls _ _ _ _ (Ret (.int .u64 B) _)).mono ?_; rintro e w2 ⟨rfl, hb2⟩; have a0 := cell_up hb2 a0; have a1 := cell_up hb2 a1; have a2 := cell_up hb2 a2; have x0 := cell_up hb2 x0; have x1 := cell_up hb2 x1; have hB := below_up hB hb2; clear hb2)
    | (go_at_call 16; refine (h.e4 ▸ add_c n1 n0 _ g1 g0 : Calls _ _ _ _ (Ret (.int .u64 A) _)).mono ?_; rintro e w2 ⟨rfl, hb2⟩; have a0 := cell_up hb2 a0; have a1 := cell_up hb2 a1; have a2 := cell_up hb2 a2; have x0 := cell_up hb2 x0; have x1 := cell_up hb2 x1; have hB := below_up hB hb2; clear hb2))
  obtain ⟨W2, hW2⟩ : ∃ W2 : World, W2 = w2 := ⟨_, rfl⟩
  rw [← hW2] at a0 a1 a2 x0 x1 hB ⊢
  clear hW2
  refine wp_region_abv (by kernel_rfl) (by kernel_rfl) ?_
  have A0 : ∀ t : Abv W2, t.val.cell? ⟨w.heap.size, 0, none⟩ = some (.int .u64 n0) := fun t => t.cell _ _ a0
  have A1 : ∀ t : Abv W2, t.val.cell? ⟨w.heap.size, 1, none⟩ = some (.int .u64 n1) := fun t => t.cell _ _ a1
  have hd : decide (A < 4611686018427387903) = false := decide_eq_false (by omega)
  repeat (go_big_quiet_step (fail))
  clear hd
  refine wpQuiet_nil ?_
  rintro _ ⟨t2, rfl⟩
  have hb2 := t2.prop
  (have a0 := cell_up hb2 a0; have a1 := cell_up hb2 a1; have a2 := cell_up hb2 a2; have x0 := cell_up hb2 x0; have x1 := cell_up hb2 x1; have hB := below_up hB hb2; clear hb2)
  clear A0 A1
  obtain ⟨hb1, hb2, hi1, hi2⟩ := Clk.both_self a b hr
  rw [decide_eq_true hab] at hb1 hi1
  have hF := hb2 hab
  clear hb2
  have Hr := Lib.hid hr; have Hc := Lib.hid hc; have Hb1 := Lib.hid hb1; have HF := Lib.hid hF; have Hi1 := Lib.hid hi1; have Hi2 := Lib.hid hi2
  clear hr hc hb1 hF hi1 hi2 a0 a1 a2 h hAB hB4 gA gC hA4
  have Ho1 := Lib.hid ho1
  clear ho1
  go_wp2_with (first
    | (go_at_call 9; refine (right_c _ _ _).mono ?_; rw [Hr.out]; rintro e w2 ⟨rfl, hb2⟩; have x0 := cell_up hb2 x0; have x1 := cell_up hb2 x1; have hB := below_up hB hb2; clear hb2)
    | (go_at_call 13; refine (carries_c _ _ _ _ ga gr).mono ?_; rw [Hc.out]; rintro e w2 ⟨rfl, hb2⟩; have x0 := cell_up hb2 x0; have x1 := cell_up hb2 x1; have hB := below_up hB hb2; clear hb2))
  obtain ⟨W3, hW3⟩ : ∃ W3 : World, W3 = w2 := ⟨_, rfl⟩
  rw [← hW3] at x0 x1 hB ⊢
  clear hW3
  refine wp_region_abv (by kernel_rfl) (by kernel_rfl) ?_
  have X0 : ∀ t : Abv W3, t.val.cell? ⟨w.heap.size + 1, 0, none⟩ = some (.int .u64 a) := fun t => t.cell _ _ x0
  have X1 : ∀ t : Abv W3, t.val.cell? ⟨w.heap.size + 1, 1, none⟩ = some (.int .u64 b) := fun t => t.cell _ _ x1
  repeat (go_big_quiet_step ((first
    | (go_at_call_of 18 (Value.int .u64 c); exact Abv.call (Ho1.out ▸ over_c a c r _ ga c0 (by omega) gr))
    | (go_at_call 18; exact Abv.call ( over_c a (c + 1) r _ ga (by omega) (by omega) gr)))))
  refine wpQuiet_nil ?_
  rintro _ ⟨t3, rfl⟩
  have hb2 := t3.prop
  (have x0 := cell_up hb2 x0; have x1 := cell_up hb2 x1; have hB := below_up hB hb2; clear hb2)
  clear X0 X1
  go_wp2_with fail
  refine (both_c a b a b _).mono ?_
  rw [HF.out, Hb1.out]
  rintro e w5 ⟨rfl, hb2⟩
  (have x0 := cell_up hb2 x0; have x1 := cell_up hb2 x1; have hB := below_up hB hb2; clear hb2)
  go_wp2_with (first
    | (go_at_call_of 11 (Value.int .u64 a); refine (inM_c _ _ _ _).mono ?_; rw [Hi1.out]; rintro e w6 ⟨rfl, hb2⟩; have hb2 := below_new hb2; have x0 := cell_up hb2 x0; have x1 := cell_up hb2 x1; have hB := below_up hB hb2; clear hb2)
    | (go_at_call_of 11 (Value.int .u64 b); refine (inM_c _ _ _ _).mono ?_; rw [Hi2.out]; rintro e w6 ⟨rfl, hb2⟩; have x0 := cell_up hb2 x0; have x1 := cell_up hb2 x1; have hB := below_up hB hb2; clear hb2)
    | (go_at_call 15; refine (works_c _).mono ?_; rintro e w6 ⟨rfl, hb2⟩; have x0 := cell_up hb2 x0; have x1 := cell_up hb2 x1; have hB := below_up hB hb2; clear hb2))
  go_ret
  exact ⟨rfl, hB⟩
end Go.Proofs.Ytnccbeiaohmnpaa
