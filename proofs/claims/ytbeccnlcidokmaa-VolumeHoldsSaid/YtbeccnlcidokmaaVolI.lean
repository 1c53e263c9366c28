/-
  The chapter's rows (works): true.
-/
import Derived.Test.YtbeccnlcidokmaaVolH
namespace Go.Proofs.Ytbeccnlcidokmaa
open Go.RowKit Go.Maps Vol
set_option linter.unusedSimpArgs false
set_option linter.unusedVariables false

namespace Vol
abbrev wc : Ct := ⟨1, 2, 10, 20, 4⟩
theorem wc_ok : wc.Ok := ⟨by decide, by decide, by decide, by decide, by decide, by decide, by decide, by decide, by decide, by decide⟩
abbrev E1 : List (Ct × Int) := [(wc, 30)]
theorem rm0 : roomF wc (lk [] wc).2 wc.a = 40 := by decide
theorem rm1 : roomF wc (lk E1 wc).2 0 = 10 := by decide
theorem rm2 : roomF wc (lk E1 wc).2 19 = 4 := by decide
theorem rm3 : roomF wc (lk E1 wc).2 wc.a = 10 := by decide
theorem ov1 : overL wc (lk E1 wc).2 0 6 = 19 := by decide
theorem ov2 : overL wc (lk E1 wc).2 19 3 = 20 := by decide
theorem bk30 {en : Ending} {E' : List (Ct × Int)} (h : BookR [] wc 30 en E') : en = .returned (.int .i64 0) ∧ E' = E1 := by
  unfold BookR at h
  rw [rm0] at h
  rcases h with ⟨h, _⟩ | ⟨_, h, _⟩ | ⟨_, _, h1, h2⟩
  · omega
  · exact absurd h (by decide)
  · refine ⟨h1, ?_⟩
    rcases h2 with ⟨_, h2⟩ | ⟨A, q, B, h2, _⟩
    · exact h2
    · cases A <;> cases h2
theorem bk11 {en : Ending} {E' : List (Ct × Int)} (h : BookR E1 wc 11 en E') : en = .returned (.int .i64 290) ∧ E' = E1 := by
  unfold BookR at h
  rw [rm3] at h
  rcases h with ⟨_, h1, h2⟩ | ⟨h, _⟩ | ⟨h, _⟩
  · exact ⟨h1, h2⟩
  · omega
  · omega
theorem lk1 : lk E1 wc = (wc, 30) := by decide
theorem fr31 {en : Ending} {E' : List (Ct × Int)} (h : FreeR E1 wc 31 en E') : en = .returned (.int .i64 5) ∧ E' = E1 := by
  unfold FreeR at h
  rw [lk1] at h
  rcases h with ⟨_, h1, h2⟩ | ⟨h, _⟩
  · exact ⟨h1, h2⟩
  · exact absurd (show (30 : Int) < 31 by decide) h
theorem fr30 {en : Ending} {E' : List (Ct × Int)} (h : FreeR E1 wc 30 en E') : en = .returned (.int .i64 0) ∧ E' = [] := by
  unfold FreeR at h
  rw [lk1] at h
  rcases h with ⟨h, _⟩ | ⟨_, h1, A, q, B, h2, h3, h4⟩
  · exact absurd h (by decide)
  · refine ⟨h1, ?_⟩
    subst h3
    rcases h4 with ⟨_, h4⟩ | ⟨h4, _⟩
    · rw [h4]
      have hl := congrArg List.length h2
      simp at hl
      have hA : A = [] := List.eq_nil_of_length_eq_zero (by omega)
      have hB : B = [] := List.eq_nil_of_length_eq_zero (by omega)
      rw [hA, hB]; rfl
    · exact absurd rfl h4
end Vol

set_option maxRecDepth 100000 in
theorem num_cv (e : Int) (w : World) : Calls Try.prog 8 #[.int .i64 e] w (fun en w' => en = .returned (.int .i64 e) ∧ w = w') := by
  go_enter Try.func8, Try.ntmps8
  go_wp2
  go_ret
  exact ⟨rfl, rfl⟩

set_option maxHeartbeats 4000000 in
set_option maxRecDepth 100000 in
theorem vWorks_c (w : World) : Calls Try.prog 5 #[] w (Ret (.bool true) w) := by
  have HK0 := RowAt.new w (ctC wc).toArray 32
  have HB0 := Lib.hid (below_alloc w (.cells (ctC wc).toArray 32))
  go_enter Try.func5, Try.ntmps5
  go_wp2_with fail
  refine (vNew_c _).mono ?_
  rintro en w1 ⟨rfl, HL, hb⟩
  have HB := Lib.hid (below_up HB0.out hb)
  have HK := HK0.below hb
  simp only [World.size_alloc] at HL ⊢
  have hKM : ¬ w.heap.size = w.heap.size + 1 := by omega
  clear HB0 HK0 hb
  go_wp2_with (refine wpList_load_mid rfl 32 (.tmp 1) rfl w.heap.size 0 rfl (ctC wc) _ HK.range Try.underlying32 rfl (by kernel_rfl) ?_)
  refine (vBook_c wc wc_ok 30 (by decide) (by decide) _ HL).mono ?_
  rintro en w2 ⟨E', hR, HL', hb⟩
  obtain ⟨rfl, rfl⟩ := bk30 hR
  replace HL := HL'
  replace HK := (hb.same _ HK.lt hKM).trans HK
  replace HK : RowAt w2 w.heap.size (ctC wc).toArray 32 := HK
  replace HB := Lib.hid (HB.out.trans (hb.below (fun k hk => by omega) HB.out.size))
  clear hR HL' hb
  go_wp2_with fail
  refine wp_region_pt (fun _ => False) (.q 0 (.q 1 (.q 3 (.q 4 (.c 2 (.c 5 (.q 6 (.q 7 .done)))))))) (by kernel_rfl) (by kernel_rfl) (by kernel_rfl) (by decide) (fun _ _ d _ _ h => by cases d <;> exact h) (fun Wd hBd => ?_)
  try simp only [Act.put, List.getElem_toArray, List.getElem_cons_zero, List.getElem_cons_succ, List.setIfInBounds_toArray, List.set_cons_zero, List.set_cons_succ]
  replace HB := Lib.hid (below_up HB.out hBd)
  replace HL := HL.below hBd
  replace HK := HK.below hBd
  refine pt_q (v := ?_) rfl (by rfl) ?_ ?_
  rotate_left
  · intro w' hBw'
    first | (go_simp; done) | (go_simp; with_reducible rfl)
  try simp only [Act.put, List.getElem_toArray, List.getElem_cons_zero, List.getElem_cons_succ, List.setIfInBounds_toArray, List.set_cons_zero, List.set_cons_succ]
  refine pt_load rfl (by rfl) 32 (.tmp 1) rfl w.heap.size 0 rfl (ctC wc) _ HK.range (fun h => h) Try.underlying32 rfl (by kernel_rfl) ?_
  try simp only [Act.put, List.getElem_toArray, List.getElem_cons_zero, List.getElem_cons_succ, List.setIfInBounds_toArray, List.set_cons_zero, List.set_cons_succ]
  refine pt_q (v := ?_) rfl (by rfl) ?_ ?_
  rotate_left
  · intro w' hBw'
    first | (go_simp; done) | (go_simp; with_reducible rfl)
  try simp only [Act.put, List.getElem_toArray, List.getElem_cons_zero, List.getElem_cons_succ, List.setIfInBounds_toArray, List.set_cons_zero, List.set_cons_succ]
  refine pt_load rfl (by rfl) 32 (.tmp 1) rfl w.heap.size 0 rfl (ctC wc) _ HK.range (fun h => h) Try.underlying32 rfl (by kernel_rfl) ?_
  try simp only [Act.put, List.getElem_toArray, List.getElem_cons_zero, List.getElem_cons_succ, List.setIfInBounds_toArray, List.set_cons_zero, List.set_cons_succ]
  refine pt_c ?_
  refine pt_step rfl (by rfl) (fun K hK => ?_)
  go_simp
  refine (vRoom_c wc wc_ok 0 (by decide) (by decide) _ HL).mono ?_
  rintro en y1 ⟨rfl, hb⟩
  replace HB := Lib.hid (below_up HB.out hb)
  replace HL := HL.below hb
  replace HK := HK.below hb
  go_wp2_with fail
  refine hK.out _ _ (But.of_below hb) ?_
  clear hK K
  try simp only [Act.put, List.getElem_toArray, List.getElem_cons_zero, List.getElem_cons_succ, List.setIfInBounds_toArray, List.set_cons_zero, List.set_cons_succ]
  refine pt_c ?_
  refine pt_step rfl (by rfl) (fun K hK => ?_)
  go_simp
  refine (vRoom_c wc wc_ok 19 (by decide) (by decide) _ HL).mono ?_
  rintro en y2 ⟨rfl, hb⟩
  replace HB := Lib.hid (below_up HB.out hb)
  replace HL := HL.below hb
  replace HK := HK.below hb
  go_wp2_with fail
  refine hK.out _ _ (But.of_below hb) ?_
  clear hK K
  try simp only [Act.put, List.getElem_toArray, List.getElem_cons_zero, List.getElem_cons_succ, List.setIfInBounds_toArray, List.set_cons_zero, List.set_cons_succ]
  refine pt_q (v := ?_) rfl (by rfl) ?_ ?_
  rotate_left
  · intro w' hBw'
    first | (go_simp; done) | (go_simp; with_reducible rfl)
  try simp only [Act.put, List.getElem_toArray, List.getElem_cons_zero, List.getElem_cons_succ, List.setIfInBounds_toArray, List.set_cons_zero, List.set_cons_succ]
  refine pt_q (v := ?_) rfl (by rfl) ?_ ?_
  rotate_left
  · intro w' hBw'
    first | (go_simp; done) | (go_simp; with_reducible rfl)
  try simp only [Act.put, List.getElem_toArray, List.getElem_cons_zero, List.getElem_cons_succ, List.setIfInBounds_toArray, List.set_cons_zero, List.set_cons_succ]
  refine pt_done ?_
  rw [rm1, rm2]
  clear hBd
  go_wp2_with (refine wpList_load_mid rfl 32 (.tmp 1) rfl w.heap.size 0 rfl (ctC wc) _ HK.range Try.underlying32 rfl (by kernel_rfl) ?_)
  refine (vBook_c wc wc_ok 11 (by decide) (by decide) _ HL).mono ?_
  rintro en w3 ⟨E', hR, HL', hb⟩
  obtain ⟨rfl, rfl⟩ := bk11 hR
  replace HL := HL'
  replace HK := (hb.same _ HK.lt hKM).trans HK
  replace HK : RowAt w3 w.heap.size (ctC wc).toArray 32 := HK
  replace HB := Lib.hid (HB.out.trans (hb.below (fun k hk => by omega) HB.out.size))
  clear hR HL' hb
  go_wp2_with fail
  refine wp_region_pt (fun _ => False) (.q 0 (.q 1 (.q 3 (.q 4 (.c 2 (.c 5 (.q 6 (.q 7 .done)))))))) (by kernel_rfl) (by kernel_rfl) (by kernel_rfl) (by decide) (fun _ _ d _ _ h => by cases d <;> exact h) (fun Wd hBd => ?_)
  try simp only [Act.put, List.getElem_toArray, List.getElem_cons_zero, List.getElem_cons_succ, List.setIfInBounds_toArray, List.set_cons_zero, List.set_cons_succ]
  replace HB := Lib.hid (below_up HB.out hBd)
  replace HL := HL.below hBd
  replace HK := HK.below hBd
  refine pt_q (v := ?_) rfl (by rfl) ?_ ?_
  rotate_left
  · intro w' hBw'
    first | (go_simp; done) | (go_simp; with_reducible rfl)
  try simp only [Act.put, List.getElem_toArray, List.getElem_cons_zero, List.getElem_cons_succ, List.setIfInBounds_toArray, List.set_cons_zero, List.set_cons_succ]
  refine pt_load rfl (by rfl) 32 (.tmp 1) rfl w.heap.size 0 rfl (ctC wc) _ HK.range (fun h => h) Try.underlying32 rfl (by kernel_rfl) ?_
  try simp only [Act.put, List.getElem_toArray, List.getElem_cons_zero, List.getElem_cons_succ, List.setIfInBounds_toArray, List.set_cons_zero, List.set_cons_succ]
  refine pt_q (v := ?_) rfl (by rfl) ?_ ?_
  rotate_left
  · intro w' hBw'
    first | (go_simp; done) | (go_simp; with_reducible rfl)
  try simp only [Act.put, List.getElem_toArray, List.getElem_cons_zero, List.getElem_cons_succ, List.setIfInBounds_toArray, List.set_cons_zero, List.set_cons_succ]
  refine pt_load rfl (by rfl) 32 (.tmp 1) rfl w.heap.size 0 rfl (ctC wc) _ HK.range (fun h => h) Try.underlying32 rfl (by kernel_rfl) ?_
  try simp only [Act.put, List.getElem_toArray, List.getElem_cons_zero, List.getElem_cons_succ, List.setIfInBounds_toArray, List.set_cons_zero, List.set_cons_succ]
  refine pt_c ?_
  refine pt_step rfl (by rfl) (fun K hK => ?_)
  go_simp
  refine (vOver_c wc wc_ok 0 6 (by decide) (by decide) (by decide) _ HL).mono ?_
  rintro en y4 ⟨rfl, hb⟩
  replace HB := Lib.hid (below_up HB.out hb)
  replace HL := HL.below hb
  replace HK := HK.below hb
  go_wp2_with fail
  refine hK.out _ _ (But.of_below hb) ?_
  clear hK K
  try simp only [Act.put, List.getElem_toArray, List.getElem_cons_zero, List.getElem_cons_succ, List.setIfInBounds_toArray, List.set_cons_zero, List.set_cons_succ]
  refine pt_c ?_
  refine pt_step rfl (by rfl) (fun K hK => ?_)
  go_simp
  refine (vOver_c wc wc_ok 19 3 (by decide) (by decide) (by decide) _ HL).mono ?_
  rintro en y5 ⟨rfl, hb⟩
  replace HB := Lib.hid (below_up HB.out hb)
  replace HL := HL.below hb
  replace HK := HK.below hb
  go_wp2_with fail
  refine hK.out _ _ (But.of_below hb) ?_
  clear hK K
  try simp only [Act.put, List.getElem_toArray, List.getElem_cons_zero, List.getElem_cons_succ, List.setIfInBounds_toArray, List.set_cons_zero, List.set_cons_succ]
  refine pt_q (v := ?_) rfl (by rfl) ?_ ?_
  rotate_left
  · intro w' hBw'
    first | (go_simp; done) | (go_simp; with_reducible rfl)
  try simp only [Act.put, List.getElem_toArray, List.getElem_cons_zero, List.getElem_cons_succ, List.setIfInBounds_toArray, List.set_cons_zero, List.set_cons_succ]
  refine pt_q (v := ?_) rfl (by rfl) ?_ ?_
  rotate_left
  · intro w' hBw'
    first | (go_simp; done) | (go_simp; with_reducible rfl)
  try simp only [Act.put, List.getElem_toArray, List.getElem_cons_zero, List.getElem_cons_succ, List.setIfInBounds_toArray, List.set_cons_zero, List.set_cons_succ]
  refine pt_done ?_
  rw [ov1, ov2]
  go_wp2_with fail
  refine wp_region_pt (· = w.heap.size + 1) (.q 0 (.q 1 (.q 3 (.q 4 (.c 2 (.c 5 (.q 6 (.q 7 .done)))))))) (by kernel_rfl) (by kernel_rfl) (by kernel_rfl) (by decide) (fun _ _ d _ _ h => by cases d <;> exact h) (fun Wd hBd => ?_)
  try simp only [Act.put, List.getElem_toArray, List.getElem_cons_zero, List.getElem_cons_succ, List.setIfInBounds_toArray, List.set_cons_zero, List.set_cons_succ]
  replace HB := Lib.hid (below_up HB.out hBd)
  replace HL := HL.below hBd
  replace HK := HK.below hBd
  refine pt_q (v := ?_) rfl (by rfl) ?_ ?_
  rotate_left
  · intro w' hBw'
    first | (go_simp; done) | (go_simp; with_reducible rfl)
  try simp only [Act.put, List.getElem_toArray, List.getElem_cons_zero, List.getElem_cons_succ, List.setIfInBounds_toArray, List.set_cons_zero, List.set_cons_succ]
  refine pt_load rfl (by rfl) 32 (.tmp 1) rfl w.heap.size 0 rfl (ctC wc) _ HK.range hKM Try.underlying32 rfl (by kernel_rfl) ?_
  try simp only [Act.put, List.getElem_toArray, List.getElem_cons_zero, List.getElem_cons_succ, List.setIfInBounds_toArray, List.set_cons_zero, List.set_cons_succ]
  refine pt_q (v := ?_) rfl (by rfl) ?_ ?_
  rotate_left
  · intro w' hBw'
    first | (go_simp; done) | (go_simp; with_reducible rfl)
  try simp only [Act.put, List.getElem_toArray, List.getElem_cons_zero, List.getElem_cons_succ, List.setIfInBounds_toArray, List.set_cons_zero, List.set_cons_succ]
  refine pt_load rfl (by rfl) 32 (.tmp 1) rfl w.heap.size 0 rfl (ctC wc) _ HK.range hKM Try.underlying32 rfl (by kernel_rfl) ?_
  try simp only [Act.put, List.getElem_toArray, List.getElem_cons_zero, List.getElem_cons_succ, List.setIfInBounds_toArray, List.set_cons_zero, List.set_cons_succ]
  refine pt_c ?_
  refine pt_step rfl (by rfl) (fun K hK => ?_)
  go_simp
  refine (vFree_c wc wc_ok 31 (by decide) (by decide) (by decide) _ HL).mono ?_
  rintro en y6 ⟨E', hR, HL', hb⟩
  obtain ⟨rfl, rfl⟩ := fr31 hR
  replace HL := HL'
  replace HK := (hb.same _ HK.lt hKM).trans HK
  replace HK : RowAt y6 w.heap.size (ctC wc).toArray 32 := HK
  replace HB := Lib.hid (HB.out.trans (hb.below (fun k hk => by omega) HB.out.size))
  go_wp2_with fail
  refine hK.out _ _ hb ?_
  clear hK K
  try simp only [Act.put, List.getElem_toArray, List.getElem_cons_zero, List.getElem_cons_succ, List.setIfInBounds_toArray, List.set_cons_zero, List.set_cons_succ]
  refine pt_c ?_
  refine pt_step rfl (by rfl) (fun K hK => ?_)
  go_simp
  refine (vFree_c wc wc_ok 30 (by decide) (by decide) (by decide) _ HL).mono ?_
  rintro en y7 ⟨E', hR, HL', hb⟩
  obtain ⟨rfl, rfl⟩ := fr30 hR
  replace HL := HL'
  replace HK := (hb.same _ HK.lt hKM).trans HK
  replace HK : RowAt y7 w.heap.size (ctC wc).toArray 32 := HK
  replace HB := Lib.hid (HB.out.trans (hb.below (fun k hk => by omega) HB.out.size))
  go_wp2_with fail
  refine hK.out _ _ hb ?_
  clear hK K
  try simp only [Act.put, List.getElem_toArray, List.getElem_cons_zero, List.getElem_cons_succ, List.setIfInBounds_toArray, List.set_cons_zero, List.set_cons_succ]
  refine pt_q (v := ?_) rfl (by rfl) ?_ ?_
  rotate_left
  · intro w' hBw'
    first | (go_simp; done) | (go_simp; with_reducible rfl)
  try simp only [Act.put, List.getElem_toArray, List.getElem_cons_zero, List.getElem_cons_succ, List.setIfInBounds_toArray, List.set_cons_zero, List.set_cons_succ]
  refine pt_q (v := ?_) rfl (by rfl) ?_ ?_
  rotate_left
  · intro w' hBw'
    first | (go_simp; done) | (go_simp; with_reducible rfl)
  try simp only [Act.put, List.getElem_toArray, List.getElem_cons_zero, List.getElem_cons_succ, List.setIfInBounds_toArray, List.set_cons_zero, List.set_cons_succ]
  refine pt_done ?_
  have k0 := HK.cell (i := 0) (v := .int .u32 1) rfl
  have k1 := HK.cell (i := 1) (v := .int .u32 2) rfl
  have k2 := HK.cell (i := 2) (v := .int .u64 10) rfl
  have k3 := HK.cell (i := 3) (v := .int .u64 20) rfl
  have k4 := HK.cell (i := 4) (v := .int .u64 4) rfl
  have l0 : (lk [] wc).2 = 0 := rfl
  go_wp2_with (first | (go_at_call 8; refine (num_cv _ _).mono ?_; rintro en ww ⟨rfl, rfl⟩) | (go_at_call 15; refine (vBookedL_c wc wc_ok _ HL).mono ?_; rw [l0]; rintro en y8 ⟨rfl, hb⟩; replace HB := Lib.hid (below_up HB.out hb); replace HL := HL.below hb) | (go_at_call 9; refine (vLen_c _ HL).mono ?_; rintro en y9 ⟨rfl, hb⟩; replace HB := Lib.hid (below_up HB.out hb)))
  go_ret
  exact ⟨rfl, HB.out⟩
end Go.Proofs.Ytbeccnlcidokmaa
