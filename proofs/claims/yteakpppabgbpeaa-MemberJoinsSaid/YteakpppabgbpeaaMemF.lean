/-
  The sort's comparison; slices.SortFunc at tellings.
-/
import Derived.Test.YteakpppabgbpeaaMemE
namespace Go.Proofs.Yteakpppabgbpeaa
open Go.RowKit Mem
set_option linter.unusedSimpArgs false
set_option linter.unusedVariables false

/-- A drawn region by one order of one's own, where it is told that the region has drawn once. -/
theorem wp_region_piE {P : Program} {ops : Array Oper} {Q : Exit → Act → World → Prop} {id : Nat} {a : Act} {w : World} (π : List (Nat × Bool)) (hm : P.follows .mixedOrders = true) (hs : Region.noSelect ops = true) (hB : piB .any ops π (Array.replicate ops.size false) = true) (hl : π.length = ops.size)
    (hQ : ∀ c (a : Act) d v w, Q (.panic c) (a.put d v) w → Q (.panic c) a w) (h : wpPi P ops Q π a w.drew) : (Code.region id ops true).wp P Q a w :=
  wp_region_held (S := Below w.drew.heap.size w.drew) hm (by have := held_of_pi hs hQ π _ _ _ hB h; rw [hl] at this; exact this)
namespace Mem
def orF2 (x y : Int) : Int := if x = 0 then y else x
/-- How two tellings stand in order. -/
def cmpM (a b : Mb) : Int := orF2 (cmpF a.node b.node) (cmpF a.region b.region)
def ltM (a b : Mb) : Prop := a.node < b.node ∨ a.node = b.node ∧ a.region < b.region
theorem cmpF_cases (x y : Int) : (x < y ∧ cmpF x y = -1) ∨ (x = y ∧ cmpF x y = 0) ∨ (y < x ∧ cmpF x y = 1) := by
  unfold cmpF
  rcases Int.lt_trichotomy x y with h | h | h
  · exact .inl ⟨h, if_pos h⟩
  · exact .inr (.inl ⟨h, by rw [if_neg (by omega), if_neg (by omega)]⟩)
  · exact .inr (.inr ⟨h, by rw [if_neg (by omega), if_pos h]⟩)
theorem cmpM_lt (a b : Mb) : cmpM a b < 0 ↔ ltM a b := by
  unfold cmpM ltM orF2
  rcases cmpF_cases a.node b.node with ⟨h, e⟩ | ⟨h, e⟩ | ⟨h, e⟩ <;> rcases cmpF_cases a.region b.region with ⟨k, f⟩ | ⟨k, f⟩ | ⟨k, f⟩ <;> rw [e, f] <;> simp <;> omega
end Mem
theorem or2_c (x y : Int) (v : Value) (w : World) (hv : Sl w 1 v 2 [.int .i64 x, .int .i64 y]) : Calls Try.prog 57 #[v] w fun en w' => en = .returned (.int .i64 (orF2 x y)) ∧ w = w' := by
  obtain ⟨a, c, rfl⟩ := hv.len
  obtain ⟨b, off, rfl, h0⟩ := hv.cellAt (k := 0) (by decide) (by decide)
  obtain ⟨b', off', e, h1⟩ := hv.cellAt (k := 1) (by decide) (by decide)
  obtain ⟨rfl, rfl⟩ : b' = b ∧ off' = off := by simpa using e.symm
  simp only [List.getElem?_cons_zero, List.getElem?_cons_succ, Nat.add_zero] at h0 h1
  obtain ⟨R, hR⟩ : ∃ R : Int, R = orF2 x y := ⟨_, rfl⟩
  rw [← hR]
  unfold orF2 at hR
  by_cases hx : x = 0
  · rw [if_pos hx] at hR
    by_cases hy : y = 0
    · subst hx; subst hy; subst hR
      go_enter Try.func57, Try.ntmps57
      go_wp2
      refine wp_loop_rounds 3 ?_
      rw [rounds_succ]
      go_wp2
      rw [rounds_succ]
      go_wp2
      rw [rounds_succ]
      go_wp2
      go_ret
      exact ⟨rfl, rfl⟩
    · subst hx; subst hR
      go_enter Try.func57, Try.ntmps57
      go_wp2
      refine wp_loop_rounds 3 ?_
      rw [rounds_succ]
      go_wp2
      rw [rounds_succ]
      go_wp2
      go_ret
      exact ⟨rfl, rfl⟩
  · rw [if_neg hx] at hR
    subst hR
    go_enter Try.func57, Try.ntmps57
    go_wp2
    refine wp_loop_rounds 3 ?_
    rw [rounds_succ]
    go_wp2
    go_ret
    exact ⟨rfl, rfl⟩
theorem grow3 (W : World) (a b c : Obj) : (((W.alloc a).alloc b).alloc c).drew = Go.Sort.grow (W.drewN 1) #[a, b, c] := by
  rw [Go.Sort.alloc_eq_grow ((W.alloc a).alloc b), Go.Sort.alloc_eq_grow (W.alloc a), Go.Sort.alloc_eq_grow W, Go.Sort.grow_grow, Go.Sort.grow_grow]
  rfl
theorem slI2 (w : World) (k : Nat) (hk : k = w.heap.size) (T : TypeId) (x y : Int) : Sl (w.alloc (.cells #[.int .i64 x, .int .i64 y] T)) 1 (.slice (some ⟨k, 0, none⟩) 2 2) 2 [.int .i64 x, .int .i64 y] := by
  subst hk
  refine ⟨by simp, .inr ⟨w.heap.size, 0, 2, rfl, by decide, by decide, fun j u hj => ?_⟩⟩
  have : (w.alloc (.cells #[.int .i64 x, .int .i64 y] T)).heap[w.heap.size]? = some (.cells #[.int .i64 x, .int .i64 y] T) := heap_alloc_new w _
  simp only [World.cell?, this, Nat.zero_add]
  simpa using hj

set_option maxHeartbeats 2000000 in
set_option maxRecDepth 100000 in
theorem sortU_c (x y : Mb) (W : World) : Calls Try.prog 56 #[mbV x, mbV y] W fun e w' => e = .returned (.int .i64 (cmpM x y)) ∧ ∃ q os', w' = Go.Sort.grow (W.drewN q) os' := by
  have X0 := (RowAt.new W (mbC x).toArray 24).below (below_alloc _ (.cells (mbC y).toArray 24))
  have Y0 := RowAt.new (W.alloc (.cells (mbC x).toArray 24)) (mbC y).toArray 24
  rw [World.size_alloc] at Y0
  have hx0 := X0.cell (i := 0) (v := .int .u32 x.node) rfl
  have hx1 := X0.cell (i := 1) (v := .int .u32 x.region) rfl
  have hy0 := Y0.cell (i := 0) (v := .int .u32 y.node) rfl
  have hy1 := Y0.cell (i := 1) (v := .int .u32 y.region) rfl
  obtain ⟨c1, hc1⟩ : ∃ c, cmpF x.node y.node = c := ⟨_, rfl⟩
  obtain ⟨c2, hc2⟩ : ∃ c, cmpF x.region y.region = c := ⟨_, rfl⟩
  have h1 := fun w => compare_u32 x.node y.node w
  have h2 := fun w => compare_u32 x.region y.region w
  have hcm : cmpM x y = orF2 c1 c2 := by unfold cmpM; rw [hc1, hc2]
  rw [hc1] at h1
  rw [hc2] at h2
  have HC := Lib.hid hcm
  clear hc1 hc2 hcm
  go_enter Try.func56, Try.ntmps56
  go_wp2
  refine wp_region_piE [(0, false), (1, false), (2, false), (3, false), (5, false), (6, false), (7, false), (8, false), (4, true), (9, true), (10, true), (11, true), (12, false)] (by kernel_rfl) (by kernel_rfl) (by kernel_rfl) rfl (fun _ _ d _ _ h => by cases d <;> exact h) ?_
  try simp only [Act.put, List.getElem_toArray, List.getElem_cons_zero, List.getElem_cons_succ, List.setIfInBounds_toArray, List.set_cons_zero, List.set_cons_succ]
  have gx : ∀ (j : Nat) (v : Value) w', ((W.alloc (.cells (mbC x).toArray 24)).alloc (.cells (mbC y).toArray 24)).cell? ⟨W.heap.size, j, none⟩ = some v → Below ((W.alloc (.cells (mbC x).toArray 24)).alloc (.cells (mbC y).toArray 24)).drew.heap.size ((W.alloc (.cells (mbC x).toArray 24)).alloc (.cells (mbC y).toArray 24)).drew w' → w'.cell? ⟨W.heap.size, j, none⟩ = some v := fun j v w' h hb => cell_up hb h
  have gy : ∀ (j : Nat) (v : Value) w', ((W.alloc (.cells (mbC x).toArray 24)).alloc (.cells (mbC y).toArray 24)).cell? ⟨W.heap.size + 1, j, none⟩ = some v → Below ((W.alloc (.cells (mbC x).toArray 24)).alloc (.cells (mbC y).toArray 24)).drew.heap.size ((W.alloc (.cells (mbC x).toArray 24)).alloc (.cells (mbC y).toArray 24)).drew w' → w'.cell? ⟨W.heap.size + 1, j, none⟩ = some v := fun j v w' h hb => cell_up hb h
  have gx0 := fun w' hb => gx 0 _ w' hx0 hb
  have gx1 := fun w' hb => gx 1 _ w' hx1 hb
  have gy0 := fun w' hb => gy 0 _ w' hy0 hb
  have gy1 := fun w' hb => gy 1 _ w' hy1 hb
  clear gx gy
  refine pi_q (v := ?_) rfl (by rfl) ?_ ?_
  rotate_left
  · intro w' hBw'
    try have q0 := gx0 w' hBw'
    try have q1 := gx1 w' hBw'
    try have q2 := gy0 w' hBw'
    try have q3 := gy1 w' hBw'
    first | (go_simp; done) | (go_simp; with_reducible rfl)
  try simp only [Act.put, List.getElem_toArray, List.getElem_cons_zero, List.getElem_cons_succ, List.setIfInBounds_toArray, List.set_cons_zero, List.set_cons_succ]
  refine pi_q (v := ?_) rfl (by rfl) ?_ ?_
  rotate_left
  · intro w' hBw'
    try have q0 := gx0 w' hBw'
    try have q1 := gx1 w' hBw'
    try have q2 := gy0 w' hBw'
    try have q3 := gy1 w' hBw'
    first | (go_simp; done) | (go_simp; with_reducible rfl)
  try simp only [Act.put, List.getElem_toArray, List.getElem_cons_zero, List.getElem_cons_succ, List.setIfInBounds_toArray, List.set_cons_zero, List.set_cons_succ]
  refine pi_q (v := ?_) rfl (by rfl) ?_ ?_
  rotate_left
  · intro w' hBw'
    try have q0 := gx0 w' hBw'
    try have q1 := gx1 w' hBw'
    try have q2 := gy0 w' hBw'
    try have q3 := gy1 w' hBw'
    first | (go_simp; done) | (go_simp; with_reducible rfl)
  try simp only [Act.put, List.getElem_toArray, List.getElem_cons_zero, List.getElem_cons_succ, List.setIfInBounds_toArray, List.set_cons_zero, List.set_cons_succ]
  refine pi_q (v := ?_) rfl (by rfl) ?_ ?_
  rotate_left
  · intro w' hBw'
    try have q0 := gx0 w' hBw'
    try have q1 := gx1 w' hBw'
    try have q2 := gy0 w' hBw'
    try have q3 := gy1 w' hBw'
    first | (go_simp; done) | (go_simp; with_reducible rfl)
  try simp only [Act.put, List.getElem_toArray, List.getElem_cons_zero, List.getElem_cons_succ, List.setIfInBounds_toArray, List.set_cons_zero, List.set_cons_succ]
  refine pi_q (v := ?_) rfl (by rfl) ?_ ?_
  rotate_left
  · intro w' hBw'
    try have q0 := gx0 w' hBw'
    try have q1 := gx1 w' hBw'
    try have q2 := gy0 w' hBw'
    try have q3 := gy1 w' hBw'
    first | (go_simp; done) | (go_simp; with_reducible rfl)
  try simp only [Act.put, List.getElem_toArray, List.getElem_cons_zero, List.getElem_cons_succ, List.setIfInBounds_toArray, List.set_cons_zero, List.set_cons_succ]
  refine pi_q (v := ?_) rfl (by rfl) ?_ ?_
  rotate_left
  · intro w' hBw'
    try have q0 := gx0 w' hBw'
    try have q1 := gx1 w' hBw'
    try have q2 := gy0 w' hBw'
    try have q3 := gy1 w' hBw'
    first | (go_simp; done) | (go_simp; with_reducible rfl)
  try simp only [Act.put, List.getElem_toArray, List.getElem_cons_zero, List.getElem_cons_succ, List.setIfInBounds_toArray, List.set_cons_zero, List.set_cons_succ]
  refine pi_q (v := ?_) rfl (by rfl) ?_ ?_
  rotate_left
  · intro w' hBw'
    try have q0 := gx0 w' hBw'
    try have q1 := gx1 w' hBw'
    try have q2 := gy0 w' hBw'
    try have q3 := gy1 w' hBw'
    first | (go_simp; done) | (go_simp; with_reducible rfl)
  try simp only [Act.put, List.getElem_toArray, List.getElem_cons_zero, List.getElem_cons_succ, List.setIfInBounds_toArray, List.set_cons_zero, List.set_cons_succ]
  refine pi_q (v := ?_) rfl (by rfl) ?_ ?_
  rotate_left
  · intro w' hBw'
    try have q0 := gx0 w' hBw'
    try have q1 := gx1 w' hBw'
    try have q2 := gy0 w' hBw'
    try have q3 := gy1 w' hBw'
    first | (go_simp; done) | (go_simp; with_reducible rfl)
  try simp only [Act.put, List.getElem_toArray, List.getElem_cons_zero, List.getElem_cons_succ, List.setIfInBounds_toArray, List.set_cons_zero, List.set_cons_succ]
  refine pi_c rfl (by rfl) (fun K hK => ?_)
  go_simp
  refine (h1 _).mono ?_
  rintro en w4 ⟨rfl, rfl⟩
  refine hK.out _ _ (Below.refl _ _) ?_
  clear hK K
  try simp only [Act.put, List.getElem_toArray, List.getElem_cons_zero, List.getElem_cons_succ, List.setIfInBounds_toArray, List.set_cons_zero, List.set_cons_succ]
  refine pi_c rfl (by rfl) (fun K hK => ?_)
  go_simp
  refine (h2 _).mono ?_
  rintro en w4 ⟨rfl, rfl⟩
  refine hK.out _ _ (Below.refl _ _) ?_
  clear hK K
  try simp only [Act.put, List.getElem_toArray, List.getElem_cons_zero, List.getElem_cons_succ, List.setIfInBounds_toArray, List.set_cons_zero, List.set_cons_succ]
  refine pi_c rfl (by rfl) (fun K hK => ?_)
  go_simp
  refine hK.out _ _ (below_alloc _ _) ?_
  clear hK K
  try simp only [Act.put, List.getElem_toArray, List.getElem_cons_zero, List.getElem_cons_succ, List.setIfInBounds_toArray, List.set_cons_zero, List.set_cons_succ]
  refine pi_c rfl (by rfl) (fun K hK => ?_)
  go_simp
  refine (or2_c c1 c2 _ _ ?hsl2).mono ?_
  case hsl2 => exact slI2 _ _ (by simp) _ c1 c2
  rintro en w4 ⟨rfl, rfl⟩
  refine hK.out _ _ (Below.refl _ _) ?_
  clear hK K
  try simp only [Act.put, List.getElem_toArray, List.getElem_cons_zero, List.getElem_cons_succ, List.setIfInBounds_toArray, List.set_cons_zero, List.set_cons_succ]
  refine pi_q (v := ?_) rfl (by rfl) ?_ ?_
  rotate_left
  · intro w' hBw'
    try have q0 := gx0 w' hBw'
    try have q1 := gx1 w' hBw'
    try have q2 := gy0 w' hBw'
    try have q3 := gy1 w' hBw'
    first | (go_simp; done) | (go_simp; with_reducible rfl)
  try simp only [Act.put, List.getElem_toArray, List.getElem_cons_zero, List.getElem_cons_succ, List.setIfInBounds_toArray, List.set_cons_zero, List.set_cons_succ]
  refine pi_nil ?_
  go_wp2
  go_ret
  refine ⟨(by rw [HC.out]; rfl), 1, #[.cells (mbC x).toArray 24, .cells (mbC y).toArray 24, .cells #[.int .i64 c1, .int .i64 c2] 3], ?_⟩
  exact grow3 _ _ _ _

set_option maxHeartbeats 2000000 in
set_option maxRecDepth 100000 in
theorem sortMb_c (x y : Mb) (W : World) : Calls Try.prog 62 #[mbV x, mbV y] W fun e w' => e = .returned (.int .i64 (cmpM x y)) ∧ ∃ q os', w' = Go.Sort.grow (W.drewN q) os' := by
  have X0 := (RowAt.new W (mbC x).toArray 24).below (below_alloc _ (.cells (mbC y).toArray 24))
  have Y0 := RowAt.new (W.alloc (.cells (mbC x).toArray 24)) (mbC y).toArray 24
  rw [World.size_alloc] at Y0
  have hx0 := X0.cell (i := 0) (v := .int .u32 x.node) rfl
  have hx1 := X0.cell (i := 1) (v := .int .u32 x.region) rfl
  have hy0 := Y0.cell (i := 0) (v := .int .u32 y.node) rfl
  have hy1 := Y0.cell (i := 1) (v := .int .u32 y.region) rfl
  obtain ⟨c1, hc1⟩ : ∃ c, cmpF x.node y.node = c := ⟨_, rfl⟩
  obtain ⟨c2, hc2⟩ : ∃ c, cmpF x.region y.region = c := ⟨_, rfl⟩
  have h1 := fun w => compare_u32 x.node y.node w
  have h2 := fun w => compare_u32 x.region y.region w
  have hcm : cmpM x y = orF2 c1 c2 := by unfold cmpM; rw [hc1, hc2]
  rw [hc1] at h1
  rw [hc2] at h2
  have HC := Lib.hid hcm
  clear hc1 hc2 hcm
  go_enter Try.func62, Try.ntmps62
  go_wp2
  refine wp_region_piE [(0, false), (1, false), (2, false), (3, false), (5, false), (6, false), (7, false), (8, false), (4, true), (9, true), (10, true), (11, true), (12, false)] (by kernel_rfl) (by kernel_rfl) (by kernel_rfl) rfl (fun _ _ d _ _ h => by cases d <;> exact h) ?_
  try simp only [Act.put, List.getElem_toArray, List.getElem_cons_zero, List.getElem_cons_succ, List.setIfInBounds_toArray, List.set_cons_zero, List.set_cons_succ]
  have gx : ∀ (j : Nat) (v : Value) w', ((W.alloc (.cells (mbC x).toArray 24)).alloc (.cells (mbC y).toArray 24)).cell? ⟨W.heap.size, j, none⟩ = some v → Below ((W.alloc (.cells (mbC x).toArray 24)).alloc (.cells (mbC y).toArray 24)).drew.heap.size ((W.alloc (.cells (mbC x).toArray 24)).alloc (.cells (mbC y).toArray 24)).drew w' → w'.cell? ⟨W.heap.size, j, none⟩ = some v := fun j v w' h hb => cell_up hb h
  have gy : ∀ (j : Nat) (v : Value) w', ((W.alloc (.cells (mbC x).toArray 24)).alloc (.cells (mbC y).toArray 24)).cell? ⟨W.heap.size + 1, j, none⟩ = some v → Below ((W.alloc (.cells (mbC x).toArray 24)).alloc (.cells (mbC y).toArray 24)).drew.heap.size ((W.alloc (.cells (mbC x).toArray 24)).alloc (.cells (mbC y).toArray 24)).drew w' → w'.cell? ⟨W.heap.size + 1, j, none⟩ = some v := fun j v w' h hb => cell_up hb h
  have gx0 := fun w' hb => gx 0 _ w' hx0 hb
  have gx1 := fun w' hb => gx 1 _ w' hx1 hb
  have gy0 := fun w' hb => gy 0 _ w' hy0 hb
  have gy1 := fun w' hb => gy 1 _ w' hy1 hb
  clear gx gy
  refine pi_q (v := ?_) rfl (by rfl) ?_ ?_
  rotate_left
  · intro w' hBw'
    try have q0 := gx0 w' hBw'
    try have q1 := gx1 w' hBw'
    try have q2 := gy0 w' hBw'
    try have q3 := gy1 w' hBw'
    first | (go_simp; done) | (go_simp; with_reducible rfl)
  try simp only [Act.put, List.getElem_toArray, List.getElem_cons_zero, List.getElem_cons_succ, List.setIfInBounds_toArray, List.set_cons_zero, List.set_cons_succ]
  refine pi_q (v := ?_) rfl (by rfl) ?_ ?_
  rotate_left
  · intro w' hBw'
    try have q0 := gx0 w' hBw'
    try have q1 := gx1 w' hBw'
    try have q2 := gy0 w' hBw'
    try have q3 := gy1 w' hBw'
    first | (go_simp; done) | (go_simp; with_reducible rfl)
  try simp only [Act.put, List.getElem_toArray, List.getElem_cons_zero, List.getElem_cons_succ, List.setIfInBounds_toArray, List.set_cons_zero, List.set_cons_succ]
  refine pi_q (v := ?_) rfl (by rfl) ?_ ?_
  rotate_left
  · intro w' hBw'
    try have q0 := gx0 w' hBw'
    try have q1 := gx1 w' hBw'
    try have q2 := gy0 w' hBw'
    try have q3 := gy1 w' hBw'
    first | (go_simp; done) | (go_simp; with_reducible rfl)
  try simp only [Act.put, List.getElem_toArray, List.getElem_cons_zero, List.getElem_cons_succ, List.setIfInBounds_toArray, List.set_cons_zero, List.set_cons_succ]
  refine pi_q (v := ?_) rfl (by rfl) ?_ ?_
  rotate_left
  · intro w' hBw'
    try have q0 := gx0 w' hBw'
    try have q1 := gx1 w' hBw'
    try have q2 := gy0 w' hBw'
    try have q3 := gy1 w' hBw'
    first | (go_simp; done) | (go_simp; with_reducible rfl)
  try simp only [Act.put, List.getElem_toArray, List.getElem_cons_zero, List.getElem_cons_succ, List.setIfInBounds_toArray, List.set_cons_zero, List.set_cons_succ]
  refine pi_q (v := ?_) rfl (by rfl) ?_ ?_
  rotate_left
  · intro w' hBw'
    try have q0 := gx0 w' hBw'
    try have q1 := gx1 w' hBw'
    try have q2 := gy0 w' hBw'
    try have q3 := gy1 w' hBw'
    first | (go_simp; done) | (go_simp; with_reducible rfl)
  try simp only [Act.put, List.getElem_toArray, List.getElem_cons_zero, List.getElem_cons_succ, List.setIfInBounds_toArray, List.set_cons_zero, List.set_cons_succ]
  refine pi_q (v := ?_) rfl (by rfl) ?_ ?_
  rotate_left
  · intro w' hBw'
    try have q0 := gx0 w' hBw'
    try have q1 := gx1 w' hBw'
    try have q2 := gy0 w' hBw'
    try have q3 := gy1 w' hBw'
    first | (go_simp; done) | (go_simp; with_reducible rfl)
  try simp only [Act.put, List.getElem_toArray, List.getElem_cons_zero, List.getElem_cons_succ, List.setIfInBounds_toArray, List.set_cons_zero, List.set_cons_succ]
  refine pi_q (v := ?_) rfl (by rfl) ?_ ?_
  rotate_left
  · intro w' hBw'
    try have q0 := gx0 w' hBw'
    try have q1 := gx1 w' hBw'
    try have q2 := gy0 w' hBw'
    try have q3 := gy1 w' hBw'
    first | (go_simp; done) | (go_simp; with_reducible rfl)
  try simp only [Act.put, List.getElem_toArray, List.getElem_cons_zero, List.getElem_cons_succ, List.setIfInBounds_toArray, List.set_cons_zero, List.set_cons_succ]
  refine pi_q (v := ?_) rfl (by rfl) ?_ ?_
  rotate_left
  · intro w' hBw'
    try have q0 := gx0 w' hBw'
    try have q1 := gx1 w' hBw'
    try have q2 := gy0 w' hBw'
    try have q3 := gy1 w' hBw'
    first | (go_simp; done) | (go_simp; with_reducible rfl)
  try simp only [Act.put, List.getElem_toArray, List.getElem_cons_zero, List.getElem_cons_succ, List.setIfInBounds_toArray, List.set_cons_zero, List.set_cons_succ]
  refine pi_c rfl (by rfl) (fun K hK => ?_)
  go_simp
  refine (h1 _).mono ?_
  rintro en w4 ⟨rfl, rfl⟩
  refine hK.out _ _ (Below.refl _ _) ?_
  clear hK K
  try simp only [Act.put, List.getElem_toArray, List.getElem_cons_zero, List.getElem_cons_succ, List.setIfInBounds_toArray, List.set_cons_zero, List.set_cons_succ]
  refine pi_c rfl (by rfl) (fun K hK => ?_)
  go_simp
  refine (h2 _).mono ?_
  rintro en w4 ⟨rfl, rfl⟩
  refine hK.out _ _ (Below.refl _ _) ?_
  clear hK K
  try simp only [Act.put, List.getElem_toArray, List.getElem_cons_zero, List.getElem_cons_succ, List.setIfInBounds_toArray, List.set_cons_zero, List.set_cons_succ]
  refine pi_c rfl (by rfl) (fun K hK => ?_)
  go_simp
  refine hK.out _ _ (below_alloc _ _) ?_
  clear hK K
  try simp only [Act.put, List.getElem_toArray, List.getElem_cons_zero, List.getElem_cons_succ, List.setIfInBounds_toArray, List.set_cons_zero, List.set_cons_succ]
  refine pi_c rfl (by rfl) (fun K hK => ?_)
  go_simp
  refine (or2_c c1 c2 _ _ ?hsl2).mono ?_
  case hsl2 => exact slI2 _ _ (by simp) _ c1 c2
  rintro en w4 ⟨rfl, rfl⟩
  refine hK.out _ _ (Below.refl _ _) ?_
  clear hK K
  try simp only [Act.put, List.getElem_toArray, List.getElem_cons_zero, List.getElem_cons_succ, List.setIfInBounds_toArray, List.set_cons_zero, List.set_cons_succ]
  refine pi_q (v := ?_) rfl (by rfl) ?_ ?_
  rotate_left
  · intro w' hBw'
    try have q0 := gx0 w' hBw'
    try have q1 := gx1 w' hBw'
    try have q2 := gy0 w' hBw'
    try have q3 := gy1 w' hBw'
    first | (go_simp; done) | (go_simp; with_reducible rfl)
  try simp only [Act.put, List.getElem_toArray, List.getElem_cons_zero, List.getElem_cons_succ, List.setIfInBounds_toArray, List.set_cons_zero, List.set_cons_succ]
  refine pi_nil ?_
  go_wp2
  go_ret
  refine ⟨(by rw [HC.out]; rfl), 1, #[.cells (mbC x).toArray 24, .cells (mbC y).toArray 24, .cells #[.int .i64 c1, .int .i64 c2] 3], ?_⟩
  exact grow3 _ _ _ _
end Go.Proofs.Yteakpppabgbpeaa
