/-
  The contract of act, further: Prune, Get, At.
-/
import Derived.Test.YtgbpdchdcbnoaaaConT
namespace Go.Proofs.Ytgbpdchdcbnoaaa
open Go.RowKit Vol
set_option linter.unusedSimpArgs false
set_option linter.unusedVariables false

set_option maxHeartbeats 8000000 in
set_option maxRecDepth 100000 in
theorem actPrune_c {B : Nat} {v u : Value} {L : List Ct} (an at_ : Int) (c : Ct) (w : World) (h : PlanAt w B v L) (hu : Sl w 5 u L.length (L.flatMap ctC)) (hL : L.length ≤ 100000) :
    Calls Try.prog 19 #[.pointer (some ⟨B, 0, none⟩), .agg #[u], acV ⟨5, an, c, at_⟩] w (ActPost B (pruneF L at_) w) := by
  obtain ⟨L', hd⟩ : ∃ L', pruneF L at_ = L' := ⟨_, rfl⟩
  obtain ⟨m, hm⟩ : ∃ m : Int, (L.length : Int) - (pruneF L at_).length = m := ⟨_, rfl⟩
  have hrp := fun w hw => rPrune_c L u L.length at_ w hw hL
  have hpp := fun w hw => pPrune_c (B := B) (v := v) at_ w hw hL
  rw [hm, hd] at hrp hpp
  have HR := Lib.hid hrp
  have HP := Lib.hid hpp
  rw [hd]
  clear hrp hpp hm hd
  have hBl := h.var.lt
  obtain ⟨au, cu, rfl⟩ := hu.len
  have V0 := AcW.start ⟨5, an, c, at_⟩ h hu
  have c0 := V0.c.cell (i := 0) (v := .int .i64 5) rfl
  have p0 := V0.p.cell (i := 0) (v := .slice au L.length cu) rfl
  have d7 := V0.c.cell (i := 7) (v := .int .u64 at_) rfl
  go_enter Try.func19, Try.ntmps19
  go_wp2_with (first
    | (go_at_call 48; refine (HR.out _ V0.want).mono ?_; rintro en w4 ⟨u', rfl, hs4, hb4⟩; have V4 := V0.up hb4; obtain ⟨a4, c4, rfl⟩ := own_slice hs4; have e7 := V4.c.cell (i := 7) (v := .int .u64 at_) rfl)
    | (go_at_call 28; refine (HP.out _ (V4.up (below_alloc w4 (.cells #[.slice a4 L'.length c4] 47))).plan).mono ?_; rintro en w6 ⟨v', rfl, hp6, hb6, _⟩))
  refine wp_region_pt (fun i => i = w.heap.size + 1 + 1) (.q 0 (.q 1 (.q 2 (.q 3 (.q 4 (.q 5 (.c 6 (.q 7 (.q 8 (.c 9 (.q 10 .done))))))))))) (by kernel_rfl) (by kernel_rfl) (by kernel_rfl) (by decide) (fun _ _ d _ _ h => by cases d <;> exact h) (fun Wd hBd => ?_)
  try simp only [Act.put, List.getElem_toArray, List.getElem_cons_zero, List.getElem_cons_succ, List.setIfInBounds_toArray, List.set_cons_zero, List.set_cons_succ]
  have V5 := V4.up (below_alloc w4 (.cells #[.slice a4 L'.length c4] 47))
  have hz4 := V4.r.lt
  have hbD := hb6.trans (But.of_below hBd)
  have u5 := (RowAt.new w4 #[.slice a4 L'.length c4] 47).but hbD (by omega)
  have hrD := V5.r.but hbD (by omega)
  have hpD := hp6.below hBd
  have hsD := ((Sl.of_own hs4).up (below_alloc w4 (.cells #[.slice a4 L'.length c4] 47))).past V5.plan.var (by simp) hbD
  have cu : ∀ w', But (fun i => i = w.heap.size + 1 + 1) Wd w' → w'.cell? ⟨w4.heap.size, 0, none⟩ = some (.slice a4 L'.length c4) := fun w' hb => hb.cell (u5.cell (i := 0) rfl) (by omega)
  refine pt_q (v := ?_) rfl (by rfl) ?_ ?_
  rotate_left
  · intro w' hBw'
    first | (go_simp; done) | (go_simp; with_reducible rfl)
  try simp only [Act.put, List.getElem_toArray, List.getElem_cons_zero, List.getElem_cons_succ, List.setIfInBounds_toArray, List.set_cons_zero, List.set_cons_succ]
  refine pt_q (v := ?_) rfl (by rfl) ?_ ?_
  rotate_left
  · intro w' hBw'
    first | (go_simp; done) | (go_simp; with_reducible rfl)
  try simp only [Act.put, List.getElem_toArray, List.getElem_cons_zero, List.getElem_cons_succ, List.setIfInBounds_toArray, List.set_cons_zero, List.set_cons_succ]
  refine pt_q (v := ?_) rfl (by rfl) ?_ ?_
  rotate_left
  · intro w' hBw'
    first | (go_simp; done) | (go_simp; with_reducible rfl)
  try simp only [Act.put, List.getElem_toArray, List.getElem_cons_zero, List.getElem_cons_succ, List.setIfInBounds_toArray, List.set_cons_zero, List.set_cons_succ]
  refine pt_q (v := ?_) rfl (by rfl) ?_ ?_
  rotate_left
  · intro w' hBw'
    first | (go_simp; done) | (go_simp; with_reducible rfl)
  try simp only [Act.put, List.getElem_toArray, List.getElem_cons_zero, List.getElem_cons_succ, List.setIfInBounds_toArray, List.set_cons_zero, List.set_cons_succ]
  refine pt_q (v := ?_) rfl (by rfl) ?_ ?_
  rotate_left
  · intro w' hBw'
    first | (go_simp; done) | (go_simp; with_reducible rfl)
  try simp only [Act.put, List.getElem_toArray, List.getElem_cons_zero, List.getElem_cons_succ, List.setIfInBounds_toArray, List.set_cons_zero, List.set_cons_succ]
  refine pt_q (v := ?_) rfl (by rfl) ?_ ?_
  rotate_left
  · intro w' hBw'
    first | (go_simp; done) | (go_simp; with_reducible rfl)
  try simp only [Act.put, List.getElem_toArray, List.getElem_cons_zero, List.getElem_cons_succ, List.setIfInBounds_toArray, List.set_cons_zero, List.set_cons_succ]
  refine pt_c ?_
  refine pt_step rfl (by rfl) (fun K hK => ?_)
  go_simp
  refine (num_cc _ _).mono ?_
  rintro en w7 ⟨rfl, rfl⟩
  refine hK.out _ _ (But.refl _ _) ?_
  clear hK K
  try simp only [Act.put, List.getElem_toArray, List.getElem_cons_zero, List.getElem_cons_succ, List.setIfInBounds_toArray, List.set_cons_zero, List.set_cons_succ]
  refine pt_q (v := ?_) rfl (by rfl) ?_ ?_
  rotate_left
  · intro w' hBw'
    first | (go_simp; done) | (go_simp; with_reducible rfl)
  try simp only [Act.put, List.getElem_toArray, List.getElem_cons_zero, List.getElem_cons_succ, List.setIfInBounds_toArray, List.set_cons_zero, List.set_cons_succ]
  refine pt_q (v := ?_) rfl (by rfl) ?_ ?_
  rotate_left
  · intro w' hBw'
    first | (go_simp; done) | (go_simp; with_reducible rfl)
  try simp only [Act.put, List.getElem_toArray, List.getElem_cons_zero, List.getElem_cons_succ, List.setIfInBounds_toArray, List.set_cons_zero, List.set_cons_succ]
  refine pt_c ?_
  refine pt_put_row rfl (by rfl) 47 _ _ rfl (w.heap.size + 1 + 1) [(.slice a4 L'.length c4)] rfl rfl hrD rfl (by kernel_rfl) rfl rfl (fun wA hRA hbA => ?_)
  try simp only [Act.put, List.getElem_toArray, List.getElem_cons_zero, List.getElem_cons_succ, List.setIfInBounds_toArray, List.set_cons_zero, List.set_cons_succ]
  refine pt_q (v := ?_) rfl (by rfl) ?_ ?_
  rotate_left
  · intro w' hBw'
    first | (go_simp; done) | (go_simp; with_reducible rfl)
  try simp only [Act.put, List.getElem_toArray, List.getElem_cons_zero, List.getElem_cons_succ, List.setIfInBounds_toArray, List.set_cons_zero, List.set_cons_succ]
  refine pt_done ?_
  have rA := hRA.cell (i := 0) rfl
  go_wp2
  obtain ⟨f1, f2, f3⟩ := act_fin V5.below hBl hbD hpD hsD hrD (by simp) hbA
  exact bodyPost_ret (v := .tuple #[.agg #[(.slice a4 L'.length c4)], .bool true]) (by simp [results, Try.results19, go_sem, rA]) rfl (ActPost.mk _ _ rfl f1 f2 f3)

set_option maxHeartbeats 8000000 in
set_option maxRecDepth 100000 in
theorem actGetL_c {B : Nat} {v u : Value} {L : List Ct} (an at_ : Int) (c : Ct) (w : World) (h : PlanAt w B v L) (hu : Sl w 5 u L.length (L.flatMap ctC)) (hg : an < 0) :
    Calls Try.prog 19 #[.pointer (some ⟨B, 0, none⟩), .agg #[u], acV ⟨6, an, c, at_⟩] w (ActPost B L w) := by
  have hgb : getB L an = true := by unfold getB; simp [hg]
  have HG := Lib.hid hgb
  clear hgb
  have hBl := h.var.lt
  obtain ⟨au, cu, rfl⟩ := hu.len
  have V0 := AcW.start ⟨6, an, c, at_⟩ h hu
  have c0 := V0.c.cell (i := 0) (v := .int .i64 6) rfl
  have d1 := V0.c.cell (i := 1) (v := .int .i64 an) rfl
  go_enter Try.func19, Try.ntmps19
  go_wp2_with (first
    | (go_at_call 49; refine (pGet_c an _ V0.plan).mono ?_; rintro en w4 ⟨x, e, rfl, hx, hb4⟩; obtain ⟨_, rfl, rfl⟩ | ⟨h1, _⟩ := hx; rotate_left; exact absurd (h1.symm.trans HG.out) (by simp); have V4 := V0.up hb4; have e1 := V4.c.cell (i := 1) (v := .int .i64 an) rfl; have p4 := V4.p.cell (i := 0) (v := .slice au L.length cu) rfl))
  refine wp_region_pt (fun i => i = w.heap.size + 1 + 1) (.q 0 (.q 1 (.q 2 (.q 3 (.q 4 (.q 5 (.c 6 (.q 7 (.q 8 (.c 9 (.q 10 .done))))))))))) (by kernel_rfl) (by kernel_rfl) (by kernel_rfl) (by decide) (fun _ _ d _ _ h => by cases d <;> exact h) (fun Wd hBd => ?_)
  try simp only [Act.put, List.getElem_toArray, List.getElem_cons_zero, List.getElem_cons_succ, List.setIfInBounds_toArray, List.set_cons_zero, List.set_cons_succ]
  have V5 := (V4.up (below_alloc w4 (.cells (ctC zct0).toArray 27))).up hBd
  have hz4 := V4.r.lt
  have x5 := (RowAt.new w4 (ctC zct0).toArray 27).below hBd
  have cp : ∀ w', But (fun i => i = w.heap.size + 1 + 1) Wd w' → w'.cell? ⟨w.heap.size, 0, none⟩ = some (.slice au L.length cu) := fun w' hb => hb.cell (V5.p.cell (i := 0) rfl) (by omega)
  have cn : ∀ w', But (fun i => i = w.heap.size + 1 + 1) Wd w' → w'.cell? ⟨w.heap.size + 1, 1, none⟩ = some (.int .i64 an) := fun w' hb => hb.cell (V5.c.cell (i := 1) rfl) (by omega)
  have z1 : zct0.from_ = 0 := rfl
  have z2 : zct0.to = 0 := rfl
  have z3 : zct0.a = 0 := rfl
  have z4 : zct0.b = 0 := rfl
  have z5 : zct0.r = 0 := rfl
  have hq : ∀ w, (binOp .eql 27 (.agg #[.int .u32 0, .int .u32 0, .int .u64 0, .int .u64 0, .int .u64 0]) (.agg #[.int .u32 0, .int .u32 0, .int .u64 0, .int .u64 0, .int .u64 0])).run Try.prog w = .ok (.bool true) w := fun w => (ct_eql zct0 zct0 w).trans (by rw [decide_eq_true rfl])
  refine pt_q (v := ?_) rfl (by rfl) ?_ ?_
  rotate_left
  · intro w' hBw'
    first | (go_simp; done) | (go_simp; with_reducible rfl)
  try simp only [Act.put, List.getElem_toArray, List.getElem_cons_zero, List.getElem_cons_succ, List.setIfInBounds_toArray, List.set_cons_zero, List.set_cons_succ]
  refine pt_load rfl (by rfl) 27 (.tmp 19) rfl w4.heap.size 0 rfl (ctC zct0) _ x5.range (by omega) Try.underlying27 rfl (by kernel_rfl) ?_
  try simp only [Act.put, List.getElem_toArray, List.getElem_cons_zero, List.getElem_cons_succ, List.setIfInBounds_toArray, List.set_cons_zero, List.set_cons_succ]
  refine pt_q (v := ?_) rfl (by rfl) ?_ ?_
  rotate_left
  · intro w' hBw'
    first | (go_simp; done) | (go_simp; with_reducible rfl)
  try simp only [Act.put, List.getElem_toArray, List.getElem_cons_zero, List.getElem_cons_succ, List.setIfInBounds_toArray, List.set_cons_zero, List.set_cons_succ]
  refine pt_q (v := ?_) rfl (by rfl) ?_ ?_
  rotate_left
  · intro w' hBw'
    first | (go_simp; done) | (go_simp; with_reducible rfl)
  try simp only [Act.put, List.getElem_toArray, List.getElem_cons_zero, List.getElem_cons_succ, List.setIfInBounds_toArray, List.set_cons_zero, List.set_cons_succ]
  refine pt_q (v := ?_) rfl (by rfl) ?_ ?_
  rotate_left
  · intro w' hBw'
    first | (go_simp; done) | (go_simp; with_reducible rfl)
  try simp only [Act.put, List.getElem_toArray, List.getElem_cons_zero, List.getElem_cons_succ, List.setIfInBounds_toArray, List.set_cons_zero, List.set_cons_succ]
  refine pt_q (v := ?_) rfl (by rfl) ?_ ?_
  rotate_left
  · intro w' hBw'
    first | (go_simp; done) | (go_simp; with_reducible rfl)
  try simp only [Act.put, List.getElem_toArray, List.getElem_cons_zero, List.getElem_cons_succ, List.setIfInBounds_toArray, List.set_cons_zero, List.set_cons_succ]
  refine pt_c ?_
  refine pt_step rfl (by rfl) (fun K hK => ?_)
  go_simp
  refine (num_cc _ _).mono ?_
  rintro en w7 ⟨rfl, rfl⟩
  refine hK.out _ _ (But.refl _ _) ?_
  clear hK K
  try simp only [Act.put, List.getElem_toArray, List.getElem_cons_zero, List.getElem_cons_succ, List.setIfInBounds_toArray, List.set_cons_zero, List.set_cons_succ]
  refine pt_q (v := ?_) rfl (by rfl) ?_ ?_
  rotate_left
  · intro w' hBw'
    first | (go_simp; done) | (go_simp; with_reducible rfl)
  try simp only [Act.put, List.getElem_toArray, List.getElem_cons_zero, List.getElem_cons_succ, List.setIfInBounds_toArray, List.set_cons_zero, List.set_cons_succ]
  refine pt_q (v := ?_) rfl (by rfl) ?_ ?_
  rotate_left
  · intro w' hBw'
    first | (go_simp; done) | (go_simp; with_reducible rfl)
  try simp only [Act.put, List.getElem_toArray, List.getElem_cons_zero, List.getElem_cons_succ, List.setIfInBounds_toArray, List.set_cons_zero, List.set_cons_succ]
  refine pt_c ?_
  refine pt_put_row rfl (by rfl) 47 _ _ rfl (w.heap.size + 1 + 1) [(.slice au L.length cu)] rfl rfl V5.r rfl (by kernel_rfl) rfl rfl (fun wA hRA hbA => ?_)
  try simp only [Act.put, List.getElem_toArray, List.getElem_cons_zero, List.getElem_cons_succ, List.setIfInBounds_toArray, List.set_cons_zero, List.set_cons_succ]
  refine pt_q (v := ?_) rfl (by rfl) ?_ ?_
  rotate_left
  · intro w' hBw'
    first | (go_simp; done) | (go_simp; with_reducible rfl)
  try simp only [Act.put, List.getElem_toArray, List.getElem_cons_zero, List.getElem_cons_succ, List.setIfInBounds_toArray, List.set_cons_zero, List.set_cons_succ]
  refine pt_done ?_
  have rA := hRA.cell (i := 0) rfl
  go_wp2
  obtain ⟨f1, f2, f3⟩ := act_fin V5.below hBl (But.refl _ _) V5.plan V5.want V5.r (by simp) hbA
  exact bodyPost_ret (v := .tuple #[.agg #[(.slice au L.length cu)], .bool true]) (by simp [results, Try.results19, go_sem, rA]) rfl (ActPost.mk _ _ rfl f1 f2 f3)

set_option maxHeartbeats 8000000 in
set_option maxRecDepth 100000 in
theorem actGetR_c {B : Nat} {v u : Value} {L : List Ct} (an at_ : Int) (c : Ct) (w : World) (h : PlanAt w B v L) (hu : Sl w 5 u L.length (L.flatMap ctC)) (hg : (L.length : Int) ≤ an) :
    Calls Try.prog 19 #[.pointer (some ⟨B, 0, none⟩), .agg #[u], acV ⟨6, an, c, at_⟩] w (ActPost B L w) := by
  have hgb : getB L an = true := by unfold getB; simp [hg]
  have hg0 : ¬ an < 0 := by omega
  have HG := Lib.hid hgb
  clear hgb
  have hBl := h.var.lt
  obtain ⟨au, cu, rfl⟩ := hu.len
  have V0 := AcW.start ⟨6, an, c, at_⟩ h hu
  have c0 := V0.c.cell (i := 0) (v := .int .i64 6) rfl
  have d1 := V0.c.cell (i := 1) (v := .int .i64 an) rfl
  go_enter Try.func19, Try.ntmps19
  go_wp2_with (first
    | (go_at_call 49; refine (pGet_c an _ V0.plan).mono ?_; rintro en w4 ⟨x, e, rfl, hx, hb4⟩; obtain ⟨_, rfl, rfl⟩ | ⟨h1, _⟩ := hx; rotate_left; exact absurd (h1.symm.trans HG.out) (by simp); have V4 := V0.up hb4; have e1 := V4.c.cell (i := 1) (v := .int .i64 an) rfl; have p4 := V4.p.cell (i := 0) (v := .slice au L.length cu) rfl))
  refine wp_region_pt (fun i => i = w.heap.size + 1 + 1) (.q 0 (.q 1 (.q 2 (.q 3 (.q 4 (.q 5 (.c 6 (.q 7 (.q 8 (.c 9 (.q 10 .done))))))))))) (by kernel_rfl) (by kernel_rfl) (by kernel_rfl) (by decide) (fun _ _ d _ _ h => by cases d <;> exact h) (fun Wd hBd => ?_)
  try simp only [Act.put, List.getElem_toArray, List.getElem_cons_zero, List.getElem_cons_succ, List.setIfInBounds_toArray, List.set_cons_zero, List.set_cons_succ]
  have V5 := (V4.up (below_alloc w4 (.cells (ctC zct0).toArray 27))).up hBd
  have hz4 := V4.r.lt
  have x5 := (RowAt.new w4 (ctC zct0).toArray 27).below hBd
  have cp : ∀ w', But (fun i => i = w.heap.size + 1 + 1) Wd w' → w'.cell? ⟨w.heap.size, 0, none⟩ = some (.slice au L.length cu) := fun w' hb => hb.cell (V5.p.cell (i := 0) rfl) (by omega)
  have cn : ∀ w', But (fun i => i = w.heap.size + 1 + 1) Wd w' → w'.cell? ⟨w.heap.size + 1, 1, none⟩ = some (.int .i64 an) := fun w' hb => hb.cell (V5.c.cell (i := 1) rfl) (by omega)
  have z1 : zct0.from_ = 0 := rfl
  have z2 : zct0.to = 0 := rfl
  have z3 : zct0.a = 0 := rfl
  have z4 : zct0.b = 0 := rfl
  have z5 : zct0.r = 0 := rfl
  have hq : ∀ w, (binOp .eql 27 (.agg #[.int .u32 0, .int .u32 0, .int .u64 0, .int .u64 0, .int .u64 0]) (.agg #[.int .u32 0, .int .u32 0, .int .u64 0, .int .u64 0, .int .u64 0])).run Try.prog w = .ok (.bool true) w := fun w => (ct_eql zct0 zct0 w).trans (by rw [decide_eq_true rfl])
  refine pt_q (v := ?_) rfl (by rfl) ?_ ?_
  rotate_left
  · intro w' hBw'
    first | (go_simp; done) | (go_simp; with_reducible rfl)
  try simp only [Act.put, List.getElem_toArray, List.getElem_cons_zero, List.getElem_cons_succ, List.setIfInBounds_toArray, List.set_cons_zero, List.set_cons_succ]
  refine pt_load rfl (by rfl) 27 (.tmp 19) rfl w4.heap.size 0 rfl (ctC zct0) _ x5.range (by omega) Try.underlying27 rfl (by kernel_rfl) ?_
  try simp only [Act.put, List.getElem_toArray, List.getElem_cons_zero, List.getElem_cons_succ, List.setIfInBounds_toArray, List.set_cons_zero, List.set_cons_succ]
  refine pt_q (v := ?_) rfl (by rfl) ?_ ?_
  rotate_left
  · intro w' hBw'
    first | (go_simp; done) | (go_simp; with_reducible rfl)
  try simp only [Act.put, List.getElem_toArray, List.getElem_cons_zero, List.getElem_cons_succ, List.setIfInBounds_toArray, List.set_cons_zero, List.set_cons_succ]
  refine pt_q (v := ?_) rfl (by rfl) ?_ ?_
  rotate_left
  · intro w' hBw'
    first | (go_simp; done) | (go_simp; with_reducible rfl)
  try simp only [Act.put, List.getElem_toArray, List.getElem_cons_zero, List.getElem_cons_succ, List.setIfInBounds_toArray, List.set_cons_zero, List.set_cons_succ]
  refine pt_q (v := ?_) rfl (by rfl) ?_ ?_
  rotate_left
  · intro w' hBw'
    first | (go_simp; done) | (go_simp; with_reducible rfl)
  try simp only [Act.put, List.getElem_toArray, List.getElem_cons_zero, List.getElem_cons_succ, List.setIfInBounds_toArray, List.set_cons_zero, List.set_cons_succ]
  refine pt_q (v := ?_) rfl (by rfl) ?_ ?_
  rotate_left
  · intro w' hBw'
    first | (go_simp; done) | (go_simp; with_reducible rfl)
  try simp only [Act.put, List.getElem_toArray, List.getElem_cons_zero, List.getElem_cons_succ, List.setIfInBounds_toArray, List.set_cons_zero, List.set_cons_succ]
  refine pt_c ?_
  refine pt_step rfl (by rfl) (fun K hK => ?_)
  go_simp
  refine (num_cc _ _).mono ?_
  rintro en w7 ⟨rfl, rfl⟩
  refine hK.out _ _ (But.refl _ _) ?_
  clear hK K
  try simp only [Act.put, List.getElem_toArray, List.getElem_cons_zero, List.getElem_cons_succ, List.setIfInBounds_toArray, List.set_cons_zero, List.set_cons_succ]
  refine pt_q (v := ?_) rfl (by rfl) ?_ ?_
  rotate_left
  · intro w' hBw'
    first | (go_simp; done) | (go_simp; with_reducible rfl)
  try simp only [Act.put, List.getElem_toArray, List.getElem_cons_zero, List.getElem_cons_succ, List.setIfInBounds_toArray, List.set_cons_zero, List.set_cons_succ]
  refine pt_q (v := ?_) rfl (by rfl) ?_ ?_
  rotate_left
  · intro w' hBw'
    first | (go_simp; done) | (go_simp; with_reducible rfl)
  try simp only [Act.put, List.getElem_toArray, List.getElem_cons_zero, List.getElem_cons_succ, List.setIfInBounds_toArray, List.set_cons_zero, List.set_cons_succ]
  refine pt_c ?_
  refine pt_put_row rfl (by rfl) 47 _ _ rfl (w.heap.size + 1 + 1) [(.slice au L.length cu)] rfl rfl V5.r rfl (by kernel_rfl) rfl rfl (fun wA hRA hbA => ?_)
  try simp only [Act.put, List.getElem_toArray, List.getElem_cons_zero, List.getElem_cons_succ, List.setIfInBounds_toArray, List.set_cons_zero, List.set_cons_succ]
  refine pt_q (v := ?_) rfl (by rfl) ?_ ?_
  rotate_left
  · intro w' hBw'
    first | (go_simp; done) | (go_simp; with_reducible rfl)
  try simp only [Act.put, List.getElem_toArray, List.getElem_cons_zero, List.getElem_cons_succ, List.setIfInBounds_toArray, List.set_cons_zero, List.set_cons_succ]
  refine pt_done ?_
  have rA := hRA.cell (i := 0) rfl
  go_wp2
  obtain ⟨f1, f2, f3⟩ := act_fin V5.below hBl (But.refl _ _) V5.plan V5.want V5.r (by simp) hbA
  exact bodyPost_ret (v := .tuple #[.agg #[(.slice au L.length cu)], .bool true]) (by simp [results, Try.results19, go_sem, rA]) rfl (ActPost.mk _ _ rfl f1 f2 f3)

set_option maxHeartbeats 8000000 in
set_option maxRecDepth 100000 in
theorem actGetM_c {B : Nat} {v u : Value} {L : List Ct} (an at_ : Int) (c : Ct) (w : World) (h : PlanAt w B v L) (hu : Sl w 5 u L.length (L.flatMap ctC)) (k : Nat) (hk : k < L.length) (hg : an = k) :
    Calls Try.prog 19 #[.pointer (some ⟨B, 0, none⟩), .agg #[u], acV ⟨6, an, c, at_⟩] w (ActPost B L w) := by
  subst hg
  have hgb : getB L (k : Int) = false := by unfold getB; simp; omega
  have HG := Lib.hid hgb
  have hg0 : ¬ (k : Int) < 0 := by omega
  have hg1 : ¬ L.length ≤ k := by omega
  have hg2 : ¬ (L.length : Int) ≤ (k : Int) := by omega
  clear hgb
  have hBl := h.var.lt
  obtain ⟨au, cu, rfl⟩ := hu.len
  obtain ⟨bu, ou, rfl, hr⟩ := hu.rec_at (cells := ctC) (sz := 5) (fun _ => rfl) hk hk
  have hbu : bu < w.heap.size := World.block_lt_of_cell? w ⟨bu, ou + k * 5 + 0, none⟩ (hr 0 _ rfl)
  have hkI : (k : Int) < (L.length : Int) := by omega
  have V0 := AcW.start ⟨6, k, c, at_⟩ h hu
  have c0 := V0.c.cell (i := 0) (v := .int .i64 6) rfl
  have d1 := V0.c.cell (i := 1) (v := .int .i64 k) rfl
  go_enter Try.func19, Try.ntmps19
  go_wp2_with (first
    | (go_at_call 49; refine (pGet_c (k : Int) _ V0.plan).mono ?_; rintro en w4 ⟨x, e, rfl, hx, hb4⟩; obtain ⟨h1, _⟩ | ⟨_, hx, rfl⟩ := hx; exact absurd (h1.symm.trans HG.out) (by simp); have HX := Lib.hid (show L[k] = x by simpa [List.getElem?_eq_getElem hk] using hx); clear hx; have V4 := V0.up hb4; have e1 := V4.c.cell (i := 1) (v := .int .i64 k) rfl; have p4 := V4.p.cell (i := 0) (v := .slice (some ⟨bu, ou, none⟩) L.length cu) rfl))
  refine wp_region_pt (fun i => i = w.heap.size + 1 + 1) (.q 0 (.q 1 (.q 2 (.q 3 (.q 4 (.q 5 (.q 6 (.q 7 (.q 8 (.q 9 (.q 10 (.c 11 (.q 12 (.q 13 (.c 14 (.q 15 .done)))))))))))))))) (by kernel_rfl) (by kernel_rfl) (by kernel_rfl) (by decide) (fun _ _ d _ _ h => by cases d <;> exact h) (fun Wd hBd => ?_)
  try simp only [Act.put, List.getElem_toArray, List.getElem_cons_zero, List.getElem_cons_succ, List.setIfInBounds_toArray, List.set_cons_zero, List.set_cons_succ]
  have V5 := (V4.up (below_alloc w4 (.cells (ctC x).toArray 27))).up hBd
  have hz4 := V4.r.lt
  have x5 := (RowAt.new w4 (ctC x).toArray 27).below hBd
  have cp : ∀ w', But (fun i => i = w.heap.size + 1 + 1) Wd w' → w'.cell? ⟨w.heap.size, 0, none⟩ = some (.slice (some ⟨bu, ou, none⟩) L.length cu) := fun w' hb => hb.cell (V5.p.cell (i := 0) rfl) (by omega)
  have cn : ∀ w', But (fun i => i = w.heap.size + 1 + 1) Wd w' → w'.cell? ⟨w.heap.size + 1, 1, none⟩ = some (.int .i64 k) := fun w' hb => hb.cell (V5.c.cell (i := 1) rfl) (by omega)
  have hrD := rangeAt_up V5.below hr
  rw [HX.out] at hrD
  have hq : ∀ w, (binOp .eql 27 (ctV x) (ctV x)).run Try.prog w = .ok (.bool true) w := fun w => (ct_eql x x w).trans (by rw [decide_eq_true rfl])
  refine pt_q (v := ?_) rfl (by rfl) ?_ ?_
  rotate_left
  · intro w' hBw'
    first | (go_simp; done) | (go_simp; with_reducible rfl)
  try simp only [Act.put, List.getElem_toArray, List.getElem_cons_zero, List.getElem_cons_succ, List.setIfInBounds_toArray, List.set_cons_zero, List.set_cons_succ]
  refine pt_load rfl (by rfl) 27 (.tmp 19) rfl w4.heap.size 0 rfl (ctC x) _ x5.range (by omega) Try.underlying27 rfl (by kernel_rfl) ?_
  try simp only [Act.put, List.getElem_toArray, List.getElem_cons_zero, List.getElem_cons_succ, List.setIfInBounds_toArray, List.set_cons_zero, List.set_cons_succ]
  refine pt_q (v := ?_) rfl (by rfl) ?_ ?_
  rotate_left
  · intro w' hBw'
    first | (go_simp; done) | (go_simp; with_reducible rfl)
  try simp only [Act.put, List.getElem_toArray, List.getElem_cons_zero, List.getElem_cons_succ, List.setIfInBounds_toArray, List.set_cons_zero, List.set_cons_succ]
  refine pt_q (v := ?_) rfl (by rfl) ?_ ?_
  rotate_left
  · intro w' hBw'
    first | (go_simp; done) | (go_simp; with_reducible rfl)
  try simp only [Act.put, List.getElem_toArray, List.getElem_cons_zero, List.getElem_cons_succ, List.setIfInBounds_toArray, List.set_cons_zero, List.set_cons_succ]
  refine pt_q (v := ?_) rfl (by rfl) ?_ ?_
  rotate_left
  · intro w' hBw'
    first | (go_simp; done) | (go_simp; with_reducible rfl)
  try simp only [Act.put, List.getElem_toArray, List.getElem_cons_zero, List.getElem_cons_succ, List.setIfInBounds_toArray, List.set_cons_zero, List.set_cons_succ]
  refine pt_q (v := ?_) rfl (by rfl) ?_ ?_
  rotate_left
  · intro w' hBw'
    first | (go_simp; done) | (go_simp; with_reducible rfl)
  try simp only [Act.put, List.getElem_toArray, List.getElem_cons_zero, List.getElem_cons_succ, List.setIfInBounds_toArray, List.set_cons_zero, List.set_cons_succ]
  refine pt_q (v := ?_) rfl (by rfl) ?_ ?_
  rotate_left
  · intro w' hBw'
    first | (go_simp; done) | (go_simp; with_reducible rfl)
  try simp only [Act.put, List.getElem_toArray, List.getElem_cons_zero, List.getElem_cons_succ, List.setIfInBounds_toArray, List.set_cons_zero, List.set_cons_succ]
  refine pt_load rfl (by rfl) 27 (.tmp 145) rfl bu (ou + k * 5) rfl (ctC x) _ hrD (by omega) Try.underlying27 rfl (by kernel_rfl) ?_
  try simp only [Act.put, List.getElem_toArray, List.getElem_cons_zero, List.getElem_cons_succ, List.setIfInBounds_toArray, List.set_cons_zero, List.set_cons_succ]
  refine pt_q (v := ?_) rfl (by rfl) ?_ ?_
  rotate_left
  · intro w' hBw'
    first | (go_simp; done) | (go_simp; with_reducible rfl)
  try simp only [Act.put, List.getElem_toArray, List.getElem_cons_zero, List.getElem_cons_succ, List.setIfInBounds_toArray, List.set_cons_zero, List.set_cons_succ]
  refine pt_q (v := ?_) rfl (by rfl) ?_ ?_
  rotate_left
  · intro w' hBw'
    first | (go_simp; done) | (go_simp; with_reducible rfl)
  try simp only [Act.put, List.getElem_toArray, List.getElem_cons_zero, List.getElem_cons_succ, List.setIfInBounds_toArray, List.set_cons_zero, List.set_cons_succ]
  refine pt_q (v := ?_) rfl (by rfl) ?_ ?_
  rotate_left
  · intro w' hBw'
    first | (go_simp; done) | (go_simp; with_reducible rfl)
  try simp only [Act.put, List.getElem_toArray, List.getElem_cons_zero, List.getElem_cons_succ, List.setIfInBounds_toArray, List.set_cons_zero, List.set_cons_succ]
  refine pt_c ?_
  refine pt_step rfl (by rfl) (fun K hK => ?_)
  go_simp
  refine (num_cc _ _).mono ?_
  rintro en w7 ⟨rfl, rfl⟩
  refine hK.out _ _ (But.refl _ _) ?_
  clear hK K
  try simp only [Act.put, List.getElem_toArray, List.getElem_cons_zero, List.getElem_cons_succ, List.setIfInBounds_toArray, List.set_cons_zero, List.set_cons_succ]
  refine pt_q (v := ?_) rfl (by rfl) ?_ ?_
  rotate_left
  · intro w' hBw'
    first | (go_simp; done) | (go_simp; with_reducible rfl)
  try simp only [Act.put, List.getElem_toArray, List.getElem_cons_zero, List.getElem_cons_succ, List.setIfInBounds_toArray, List.set_cons_zero, List.set_cons_succ]
  refine pt_q (v := ?_) rfl (by rfl) ?_ ?_
  rotate_left
  · intro w' hBw'
    first | (go_simp; done) | (go_simp; with_reducible rfl)
  try simp only [Act.put, List.getElem_toArray, List.getElem_cons_zero, List.getElem_cons_succ, List.setIfInBounds_toArray, List.set_cons_zero, List.set_cons_succ]
  refine pt_c ?_
  refine pt_put_row rfl (by rfl) 47 _ _ rfl (w.heap.size + 1 + 1) [(.slice (some ⟨bu, ou, none⟩) L.length cu)] rfl rfl V5.r rfl (by kernel_rfl) rfl rfl (fun wA hRA hbA => ?_)
  try simp only [Act.put, List.getElem_toArray, List.getElem_cons_zero, List.getElem_cons_succ, List.setIfInBounds_toArray, List.set_cons_zero, List.set_cons_succ]
  refine pt_q (v := ?_) rfl (by rfl) ?_ ?_
  rotate_left
  · intro w' hBw'
    first | (go_simp; done) | (go_simp; with_reducible rfl)
  try simp only [Act.put, List.getElem_toArray, List.getElem_cons_zero, List.getElem_cons_succ, List.setIfInBounds_toArray, List.set_cons_zero, List.set_cons_succ]
  refine pt_done ?_
  have rA := hRA.cell (i := 0) rfl
  go_wp2
  obtain ⟨f1, f2, f3⟩ := act_fin V5.below hBl (But.refl _ _) V5.plan V5.want V5.r (by simp) hbA
  exact bodyPost_ret (v := .tuple #[.agg #[(.slice (some ⟨bu, ou, none⟩) L.length cu)], .bool true]) (by simp [results, Try.results19, go_sem, rA]) rfl (ActPost.mk _ _ rfl f1 f2 f3)

set_option maxHeartbeats 8000000 in
set_option maxRecDepth 100000 in
theorem actAtN_c {B : Nat} {v u : Value} {L : List Ct} (what an at_ : Int) (c : Ct) (hW : ∀ i : Int, 0 ≤ i → i ≤ 6 → (what == i) = false) (w : World) (h : PlanAt w B v L) (hu : Sl w 5 u L.length (L.flatMap ctC)) (ha : atR L c.from_ c.to at_ = none) :
    Calls Try.prog 19 #[.pointer (some ⟨B, 0, none⟩), .agg #[u], acV ⟨what, an, c, at_⟩] w (ActPost B L w) := by
  have w0 := hW 0 (by omega) (by omega)
  have w1 := hW 1 (by omega) (by omega)
  have w2 := hW 2 (by omega) (by omega)
  have w3 := hW 3 (by omega) (by omega)
  have w4 := hW 4 (by omega) (by omega)
  have w5 := hW 5 (by omega) (by omega)
  have w6 := hW 6 (by omega) (by omega)
  clear hW
  have hpa := fun w' hw' => pAt_c (B := B) (v := v) (L := L) c.from_ c.to at_ w' hw'
  have hra := fun w' hw' => rAt_c L u L.length c.from_ c.to at_ w' hw'
  rw [ha] at hpa
  rw [atF_none ha] at hra
  obtain ⟨x, hx⟩ : ∃ x, zct0 = x := ⟨_, rfl⟩
  simp only [Option.getD_none, Option.isSome_none, hx] at hpa
  have HX := Lib.hid hx
  clear hx
  have HPA := Lib.hid hpa
  have HRA := Lib.hid hra
  clear hpa hra
  have hBl := h.var.lt
  obtain ⟨au, cu, rfl⟩ := hu.len
  have V0 := AcW.start ⟨what, an, c, at_⟩ h hu
  have c0 := V0.c.cell (i := 0) (v := .int .i64 what) rfl
  have d2 := V0.c.cell (i := 2) (v := .int .u32 c.from_) rfl
  have d3 := V0.c.cell (i := 3) (v := .int .u32 c.to) rfl
  have d7 := V0.c.cell (i := 7) (v := .int .u64 at_) rfl
  go_enter Try.func19, Try.ntmps19
  go_wp2_with (first
    | (go_at_call 18; refine (HPA.out _ V0.plan).mono ?_; rintro en w4 ⟨rfl, hb4⟩; have V4 := (V0.up hb4).up (below_alloc w4 (.cells (ctC x).toArray 27)); have x4 := RowAt.new w4 (ctC x).toArray 27; have p4 := V4.p.cell (i := 0) (v := .slice au L.length cu) rfl; have e2 := V4.c.cell (i := 2) (v := .int .u32 c.from_) rfl; have e3 := V4.c.cell (i := 3) (v := .int .u32 c.to) rfl; have e7 := V4.c.cell (i := 7) (v := .int .u64 at_) rfl)
    | (go_at_call 50; refine (HRA.out _ V4.want).mono ?_; rintro en w5 ⟨rfl, hb5⟩; have V5 := V4.up hb5; have x5 := x4.below hb5; have p5 := V5.p.cell (i := 0) (v := .slice au L.length cu) rfl))
  refine wp_region_pt (fun i => i = w.heap.size + 1 + 1) (.q 0 (.q 1 (.q 2 (.q 3 (.q 4 (.q 5 (.q 6 (.q 7 (.c 8 (.q 9 .done)))))))))) (by kernel_rfl) (by kernel_rfl) (by kernel_rfl) (by decide) (fun _ _ d _ _ h => by cases d <;> exact h) (fun Wd hBd => ?_)
  try simp only [Act.put, List.getElem_toArray, List.getElem_cons_zero, List.getElem_cons_succ, List.setIfInBounds_toArray, List.set_cons_zero, List.set_cons_succ]
  have V6 := V5.up hBd
  have x6 := x5.below hBd
  have hx6 := hb4.size
  have hx7 := V0.r.lt
  have cp : ∀ w', But (fun i => i = w.heap.size + 1 + 1) Wd w' → w'.cell? ⟨w.heap.size, 0, none⟩ = some (.slice au L.length cu) := fun w' hb => hb.cell (V6.p.cell (i := 0) rfl) (by omega)
  have z1 : x.from_ = 0 := HX.out ▸ rfl
  have z2 : x.to = 0 := HX.out ▸ rfl
  have z3 : x.a = 0 := HX.out ▸ rfl
  have z4 : x.b = 0 := HX.out ▸ rfl
  have z5 : x.r = 0 := HX.out ▸ rfl
  refine pt_q (v := ?_) rfl (by rfl) ?_ ?_
  rotate_left
  · intro w' hBw'
    first | (go_simp; done) | (go_simp; with_reducible rfl)
  try simp only [Act.put, List.getElem_toArray, List.getElem_cons_zero, List.getElem_cons_succ, List.setIfInBounds_toArray, List.set_cons_zero, List.set_cons_succ]
  refine pt_load rfl (by rfl) 27 (.tmp 21) rfl w4.heap.size 0 rfl (ctC x) _ x6.range (by omega) Try.underlying27 rfl (by kernel_rfl) ?_
  try simp only [Act.put, List.getElem_toArray, List.getElem_cons_zero, List.getElem_cons_succ, List.setIfInBounds_toArray, List.set_cons_zero, List.set_cons_succ]
  refine pt_q (v := ?_) rfl (by rfl) ?_ ?_
  rotate_left
  · intro w' hBw'
    first | (go_simp; done) | (go_simp; with_reducible rfl)
  try simp only [Act.put, List.getElem_toArray, List.getElem_cons_zero, List.getElem_cons_succ, List.setIfInBounds_toArray, List.set_cons_zero, List.set_cons_succ]
  refine pt_q (v := ?_) rfl (by rfl) ?_ ?_
  rotate_left
  · intro w' hBw'
    first | (go_simp; done) | (go_simp; with_reducible rfl)
  try simp only [Act.put, List.getElem_toArray, List.getElem_cons_zero, List.getElem_cons_succ, List.setIfInBounds_toArray, List.set_cons_zero, List.set_cons_succ]
  refine pt_q (v := ?_) rfl (by rfl) ?_ ?_
  rotate_left
  · intro w' hBw'
    first | (go_simp; done) | (go_simp; with_reducible rfl)
  try simp only [Act.put, List.getElem_toArray, List.getElem_cons_zero, List.getElem_cons_succ, List.setIfInBounds_toArray, List.set_cons_zero, List.set_cons_succ]
  refine pt_q (v := ?_) rfl (by rfl) ?_ ?_
  rotate_left
  · intro w' hBw'
    first | (go_simp; done) | (go_simp; with_reducible rfl)
  try simp only [Act.put, List.getElem_toArray, List.getElem_cons_zero, List.getElem_cons_succ, List.setIfInBounds_toArray, List.set_cons_zero, List.set_cons_succ]
  refine pt_q (v := ?_) rfl (by rfl) ?_ ?_
  rotate_left
  · intro w' hBw'
    first | (go_simp; done) | (go_simp; with_reducible rfl)
  try simp only [Act.put, List.getElem_toArray, List.getElem_cons_zero, List.getElem_cons_succ, List.setIfInBounds_toArray, List.set_cons_zero, List.set_cons_succ]
  refine pt_q (v := ?_) rfl (by rfl) ?_ ?_
  rotate_left
  · intro w' hBw'
    first | (go_simp; done) | (go_simp; with_reducible rfl)
  try simp only [Act.put, List.getElem_toArray, List.getElem_cons_zero, List.getElem_cons_succ, List.setIfInBounds_toArray, List.set_cons_zero, List.set_cons_succ]
  refine pt_c ?_
  refine pt_put_row rfl (by rfl) 47 _ _ rfl (w.heap.size + 1 + 1) [(.slice au L.length cu)] rfl rfl V6.r rfl (by kernel_rfl) rfl rfl (fun wA hRA hbA => ?_)
  try simp only [Act.put, List.getElem_toArray, List.getElem_cons_zero, List.getElem_cons_succ, List.setIfInBounds_toArray, List.set_cons_zero, List.set_cons_succ]
  refine pt_q (v := ?_) rfl (by rfl) ?_ ?_
  rotate_left
  · intro w' hBw'
    first | (go_simp; done) | (go_simp; with_reducible rfl)
  try simp only [Act.put, List.getElem_toArray, List.getElem_cons_zero, List.getElem_cons_succ, List.setIfInBounds_toArray, List.set_cons_zero, List.set_cons_succ]
  refine pt_done ?_
  have rA := hRA.cell (i := 0) rfl
  go_wp2
  obtain ⟨f1, f2, f3⟩ := act_fin V6.below hBl (But.refl _ _) V6.plan V6.want V6.r (by simp) hbA
  exact bodyPost_ret (v := .tuple #[.agg #[(.slice au L.length cu)], .bool true]) (by simp [results, Try.results19, go_sem, rA]) rfl (ActPost.mk _ _ rfl f1 f2 f3)

set_option maxHeartbeats 8000000 in
set_option maxRecDepth 100000 in
theorem actAtS_c {B : Nat} {v u : Value} {L : List Ct} (what an at_ : Int) (c : Ct) (hW : ∀ i : Int, 0 ≤ i → i ≤ 6 → (what == i) = false) (w : World) (h : PlanAt w B v L) (hu : Sl w 5 u L.length (L.flatMap ctC)) (x : Ct) (ha : atR L c.from_ c.to at_ = some x) :
    Calls Try.prog 19 #[.pointer (some ⟨B, 0, none⟩), .agg #[u], acV ⟨what, an, c, at_⟩] w (ActPost B L w) := by
  have w0 := hW 0 (by omega) (by omega)
  have w1 := hW 1 (by omega) (by omega)
  have w2 := hW 2 (by omega) (by omega)
  have w3 := hW 3 (by omega) (by omega)
  have w4 := hW 4 (by omega) (by omega)
  have w5 := hW 5 (by omega) (by omega)
  have w6 := hW 6 (by omega) (by omega)
  clear hW
  have hpa := fun w' hw' => pAt_c (B := B) (v := v) (L := L) c.from_ c.to at_ w' hw'
  have hra := fun w' hw' => rAt_c L u L.length c.from_ c.to at_ w' hw'
  obtain ⟨k, hk, hf, hkx⟩ := atF_some ha
  rw [ha] at hpa
  rw [hf] at hra
  simp only [Option.getD_some, Option.isSome_some] at hpa
  have HX := Lib.hid hkx
  have hg0 : ¬ (k : Int) < 0 := by omega
  have hkI : (k : Int) < (L.length : Int) := by omega
  clear hf hkx
  have HPA := Lib.hid hpa
  have HRA := Lib.hid hra
  clear hpa hra
  have hBl := h.var.lt
  obtain ⟨au, cu, rfl⟩ := hu.len
  obtain ⟨bu, ou, rfl, hr⟩ := hu.rec_at (cells := ctC) (sz := 5) (fun _ => rfl) hk hk
  have hbu : bu < w.heap.size := World.block_lt_of_cell? w ⟨bu, ou + k * 5 + 0, none⟩ (hr 0 _ rfl)
  have V0 := AcW.start ⟨what, an, c, at_⟩ h hu
  have c0 := V0.c.cell (i := 0) (v := .int .i64 what) rfl
  have d2 := V0.c.cell (i := 2) (v := .int .u32 c.from_) rfl
  have d3 := V0.c.cell (i := 3) (v := .int .u32 c.to) rfl
  have d7 := V0.c.cell (i := 7) (v := .int .u64 at_) rfl
  go_enter Try.func19, Try.ntmps19
  go_wp2_with (first
    | (go_at_call 18; refine (HPA.out _ V0.plan).mono ?_; rintro en w4 ⟨rfl, hb4⟩; have V4 := (V0.up hb4).up (below_alloc w4 (.cells (ctC x).toArray 27)); have x4 := RowAt.new w4 (ctC x).toArray 27; have p4 := V4.p.cell (i := 0) (v := .slice (some ⟨bu, ou, none⟩) L.length cu) rfl; have e2 := V4.c.cell (i := 2) (v := .int .u32 c.from_) rfl; have e3 := V4.c.cell (i := 3) (v := .int .u32 c.to) rfl; have e7 := V4.c.cell (i := 7) (v := .int .u64 at_) rfl)
    | (go_at_call 50; refine (HRA.out _ V4.want).mono ?_; rintro en w5 ⟨rfl, hb5⟩; have V5 := V4.up hb5; have x5 := x4.below hb5; have p5 := V5.p.cell (i := 0) (v := .slice (some ⟨bu, ou, none⟩) L.length cu) rfl))
  refine wp_region_pt (fun i => i = w.heap.size + 1 + 1) (.q 0 (.q 1 (.q 2 (.q 3 (.q 4 (.q 5 (.q 6 (.q 7 (.q 8 (.q 9 (.q 10 (.c 11 (.q 12 .done))))))))))))) (by kernel_rfl) (by kernel_rfl) (by kernel_rfl) (by decide) (fun _ _ d _ _ h => by cases d <;> exact h) (fun Wd hBd => ?_)
  try simp only [Act.put, List.getElem_toArray, List.getElem_cons_zero, List.getElem_cons_succ, List.setIfInBounds_toArray, List.set_cons_zero, List.set_cons_succ]
  have V6 := V5.up hBd
  have x6 := x5.below hBd
  have hx6 := hb4.size
  have hx7 := V0.r.lt
  have cp : ∀ w', But (fun i => i = w.heap.size + 1 + 1) Wd w' → w'.cell? ⟨w.heap.size, 0, none⟩ = some (.slice (some ⟨bu, ou, none⟩) L.length cu) := fun w' hb => hb.cell (V6.p.cell (i := 0) rfl) (by omega)
  have hrD := rangeAt_up V6.below hr
  rw [HX.out] at hrD
  have hq : ∀ w, (binOp .eql 27 (ctV x) (ctV x)).run Try.prog w = .ok (.bool true) w := fun w => (ct_eql x x w).trans (by rw [decide_eq_true rfl])
  refine pt_q (v := ?_) rfl (by rfl) ?_ ?_
  rotate_left
  · intro w' hBw'
    first | (go_simp; done) | (go_simp; with_reducible rfl)
  try simp only [Act.put, List.getElem_toArray, List.getElem_cons_zero, List.getElem_cons_succ, List.setIfInBounds_toArray, List.set_cons_zero, List.set_cons_succ]
  refine pt_load rfl (by rfl) 27 (.tmp 21) rfl w4.heap.size 0 rfl (ctC x) _ x6.range (by omega) Try.underlying27 rfl (by kernel_rfl) ?_
  try simp only [Act.put, List.getElem_toArray, List.getElem_cons_zero, List.getElem_cons_succ, List.setIfInBounds_toArray, List.set_cons_zero, List.set_cons_succ]
  refine pt_q (v := ?_) rfl (by rfl) ?_ ?_
  rotate_left
  · intro w' hBw'
    first | (go_simp; done) | (go_simp; with_reducible rfl)
  try simp only [Act.put, List.getElem_toArray, List.getElem_cons_zero, List.getElem_cons_succ, List.setIfInBounds_toArray, List.set_cons_zero, List.set_cons_succ]
  refine pt_q (v := ?_) rfl (by rfl) ?_ ?_
  rotate_left
  · intro w' hBw'
    first | (go_simp; done) | (go_simp; with_reducible rfl)
  try simp only [Act.put, List.getElem_toArray, List.getElem_cons_zero, List.getElem_cons_succ, List.setIfInBounds_toArray, List.set_cons_zero, List.set_cons_succ]
  refine pt_q (v := ?_) rfl (by rfl) ?_ ?_
  rotate_left
  · intro w' hBw'
    first | (go_simp; done) | (go_simp; with_reducible rfl)
  try simp only [Act.put, List.getElem_toArray, List.getElem_cons_zero, List.getElem_cons_succ, List.setIfInBounds_toArray, List.set_cons_zero, List.set_cons_succ]
  refine pt_q (v := ?_) rfl (by rfl) ?_ ?_
  rotate_left
  · intro w' hBw'
    first | (go_simp; done) | (go_simp; with_reducible rfl)
  try simp only [Act.put, List.getElem_toArray, List.getElem_cons_zero, List.getElem_cons_succ, List.setIfInBounds_toArray, List.set_cons_zero, List.set_cons_succ]
  refine pt_load rfl (by rfl) 27 (.tmp 191) rfl bu (ou + k * 5) rfl (ctC x) _ hrD (by omega) Try.underlying27 rfl (by kernel_rfl) ?_
  try simp only [Act.put, List.getElem_toArray, List.getElem_cons_zero, List.getElem_cons_succ, List.setIfInBounds_toArray, List.set_cons_zero, List.set_cons_succ]
  refine pt_q (v := ?_) rfl (by rfl) ?_ ?_
  rotate_left
  · intro w' hBw'
    first | (go_simp; done) | (go_simp; with_reducible rfl)
  try simp only [Act.put, List.getElem_toArray, List.getElem_cons_zero, List.getElem_cons_succ, List.setIfInBounds_toArray, List.set_cons_zero, List.set_cons_succ]
  refine pt_q (v := ?_) rfl (by rfl) ?_ ?_
  rotate_left
  · intro w' hBw'
    first | (go_simp; done) | (go_simp; with_reducible rfl)
  try simp only [Act.put, List.getElem_toArray, List.getElem_cons_zero, List.getElem_cons_succ, List.setIfInBounds_toArray, List.set_cons_zero, List.set_cons_succ]
  refine pt_q (v := ?_) rfl (by rfl) ?_ ?_
  rotate_left
  · intro w' hBw'
    first | (go_simp; done) | (go_simp; with_reducible rfl)
  try simp only [Act.put, List.getElem_toArray, List.getElem_cons_zero, List.getElem_cons_succ, List.setIfInBounds_toArray, List.set_cons_zero, List.set_cons_succ]
  refine pt_q (v := ?_) rfl (by rfl) ?_ ?_
  rotate_left
  · intro w' hBw'
    first | (go_simp; done) | (go_simp; with_reducible rfl)
  try simp only [Act.put, List.getElem_toArray, List.getElem_cons_zero, List.getElem_cons_succ, List.setIfInBounds_toArray, List.set_cons_zero, List.set_cons_succ]
  refine pt_c ?_
  refine pt_put_row rfl (by rfl) 47 _ _ rfl (w.heap.size + 1 + 1) [(.slice (some ⟨bu, ou, none⟩) L.length cu)] rfl rfl V6.r rfl (by kernel_rfl) rfl rfl (fun wA hRA hbA => ?_)
  try simp only [Act.put, List.getElem_toArray, List.getElem_cons_zero, List.getElem_cons_succ, List.setIfInBounds_toArray, List.set_cons_zero, List.set_cons_succ]
  refine pt_q (v := ?_) rfl (by rfl) ?_ ?_
  rotate_left
  · intro w' hBw'
    first | (go_simp; done) | (go_simp; with_reducible rfl)
  try simp only [Act.put, List.getElem_toArray, List.getElem_cons_zero, List.getElem_cons_succ, List.setIfInBounds_toArray, List.set_cons_zero, List.set_cons_succ]
  refine pt_done ?_
  have rA := hRA.cell (i := 0) rfl
  go_wp2
  obtain ⟨f1, f2, f3⟩ := act_fin V6.below hBl (But.refl _ _) V6.plan V6.want V6.r (by simp) hbA
  exact bodyPost_ret (v := .tuple #[.agg #[(.slice (some ⟨bu, ou, none⟩) L.length cu)], .bool true]) (by simp [results, Try.results19, go_sem, rA]) rfl (ActPost.mk _ _ rfl f1 f2 f3)

/-- act: both tell the same, and stand the same. -/
theorem act_c {B : Nat} {v u : Value} {L : List Ct} (a : Ac) (hw : a.c.Wf) (w : World) (h : PlanAt w B v L) (hu : Sl w 5 u L.length (L.flatMap ctC)) (hi : PInv L) (hL : L.length ≤ 100000) :
    Calls Try.prog 19 #[.pointer (some ⟨B, 0, none⟩), .agg #[u], acV a] w (ActPost B (stepA L a) w) := by
  obtain ⟨what, an, c, at_⟩ := a
  by_cases h1 : what = 0 ∨ what = 1 ∨ what = 2 ∨ what = 3
  · rw [show stepA L ⟨what, an, c, at_⟩ = (addF L c).2 from if_pos h1]
    exact actAdd_c what an at_ c hw h1 w h hu hi hL
  · by_cases h4 : what = 4
    · subst h4
      rw [show stepA L ⟨4, an, c, at_⟩ = dropF L c.from_ c.to at_ from (if_neg h1).trans (if_pos rfl)]
      exact actDrop_c an at_ c w h hu hL
    · by_cases h5 : what = 5
      · subst h5
        rw [show stepA L ⟨5, an, c, at_⟩ = pruneF L at_ from (if_neg h1).trans ((if_neg h4).trans (if_pos rfl))]
        exact actPrune_c an at_ c w h hu hL
      · rw [show stepA L ⟨what, an, c, at_⟩ = L from (if_neg h1).trans ((if_neg h4).trans (if_neg h5))]
        by_cases h6 : what = 6
        · subst h6
          by_cases ha : an < 0
          · exact actGetL_c an at_ c w h hu ha
          · by_cases hb : (L.length : Int) ≤ an
            · exact actGetR_c an at_ c w h hu hb
            · exact actGetM_c an at_ c w h hu an.toNat (by omega) (by omega)
        · have hW : ∀ i : Int, 0 ≤ i → i ≤ 6 → (what == i) = false := fun i h0 h6' => by rw [beq_eq_false_iff_ne]; omega
          cases ha : atR L c.from_ c.to at_ with
          | none => exact actAtN_c what an at_ c hW w h hu ha
          | some x => exact actAtS_c what an at_ c hW w h hu x ha
end Go.Proofs.Ytgbpdchdcbnoaaa
