/-
  The contract of Over.
-/
import Derived.Test.YtbeccnlcidokmaaVolC
namespace Go.Proofs.Ytbeccnlcidokmaa
open Go.RowKit Go.Maps Vol
set_option linter.unusedSimpArgs false
set_option linter.unusedVariables false

def Vol.overL (c : Ct) (n at_ m : Int) : Int :=
  if Clk.overF c.a (Clk.addF n m) c.r < Clk.overF (if at_ < c.a then c.a else at_) (least2 m 4611686018427387903) c.r then Clk.overF (if at_ < c.a then c.a else at_) (least2 m 4611686018427387903) c.r else Clk.overF c.a (Clk.addF n m) c.r

set_option maxHeartbeats 2000000 in
set_option maxRecDepth 100000 in
theorem vOver_c {L M : Nat} {E : List (Ct × Int)} (c : Ct) (hc : c.Ok) (at_ m : Int) (hat : 0 ≤ at_) (hm : 0 ≤ m) (hn : 0 ≤ (lk E c).2) (w : World) (h : Led w L M E) : Calls Try.prog 16 #[.pointer (some ⟨L, 0, none⟩), ctV c, .int .u64 at_, .int .u64 m] w (Ret (.int .u64 (overL c (lk E c).2 at_ m)) w) := by
  have hB := below_alloc w (.cells (ctC c).toArray 32)
  have C1 := RowAt.new w (ctC c).toArray 32
  have h1 := h.below hB
  have ha0 := hc.a0
  have hr1 := hc.r1
  have hr0 : 0 ≤ c.r := by omega
  have hA : 0 ≤ Clk.addF (lk E c).2 m ∧ Clk.addF (lk E c).2 m ≤ 4611686018427387903 := by
    have h1 := Clk.topF_b (lk E c).2 hn
    have h2 := Clk.topF_b m hm
    exact Clk.topF_b _ (by omega)
  have hmx0 : 0 ≤ (if at_ < c.a then c.a else at_) := by split <;> omega
  have hl0 : 0 ≤ least2 m 4611686018427387903 := least2_lo hm (by omega)
  have hl1 := (least2_le m 4611686018427387903).2
  have hup : ∀ W1 W2 : World, Below W1.heap.size W1 W2 → (Led W1 L M E ∧ RowAt W1 w.heap.size (ctC c).toArray 32) → (Led W2 L M E ∧ RowAt W2 w.heap.size (ctC c).toArray 32) := fun _ _ hb h => ⟨h.1.below hb, h.2.below hb⟩
  obtain ⟨R, hR⟩ : ∃ R, R = overL c (lk E c).2 at_ m := ⟨_, rfl⟩
  rw [← hR]
  unfold overL at hR
  go_enter Try.func16, Try.ntmps16
  go_wp2_with (first
    | (go_at_call 27; refine (ctRight_c c hc _).mono ?_; rintro en w2 ⟨rfl, hb2⟩; have h2 := h1.below hb2; have C2 := C1.below hb2; have HB := Lib.hid (below_up hB hb2); have HR := Lib.hid hR; clear hR))
  refine wp_region_pt (fun _ => False) (.q 0 (.q 1 (.q 2 (.q 3 (.q 4 (.q 6 (.q 8 (.q 9 (.c 5 (.c 7 (.c 10 (.q 11 .done)))))))))))) (by kernel_rfl) (by kernel_rfl) (by kernel_rfl) (by decide) (fun _ _ d _ _ h => by cases d <;> exact h) (fun Wd hBd => ?_)
  try simp only [Act.put, List.getElem_toArray, List.getElem_cons_zero, List.getElem_cons_succ, List.setIfInBounds_toArray, List.set_cons_zero, List.set_cons_succ]
  have HB := Lib.hid (below_up HB.out hBd)
  have HF := hup _ _ hBd (show _ ∧ _ from ⟨h2, C2⟩)
  have g2 : ∀ w', But (fun _ => False) Wd w' → w'.cell? ⟨w.heap.size, 2, none⟩ = some (.int .u64 c.a) := fun w' hb => hb.cell (HF.2.cell (i := 2) rfl) (fun h => h)
  have g4 : ∀ w', But (fun _ => False) Wd w' → w'.cell? ⟨w.heap.size, 4, none⟩ = some (.int .u64 c.r) := fun w' hb => hb.cell (HF.2.cell (i := 4) rfl) (fun h => h)
  refine pt_q (v := ?_) rfl (by rfl) ?_ ?_
  rotate_left
  · intro w' hBw'
    first | (go_simp; done) | (go_simp; with_reducible rfl)
  try simp only [Act.put, List.getElem_toArray, List.getElem_cons_zero, List.getElem_cons_succ, List.setIfInBounds_toArray, List.set_cons_zero, List.set_cons_succ]
  refine pt_q (v := ?_) rfl (by rfl) ?_ ?_
  rotate_left
  · intro w' hBw'
    first | (go_simp; done) | (go_simp; with_reducible rfl)
  try simp only [Act.put, List.getElem_toArray, List.getElem_cons_zero, List.getElem_cons_succ, List.setIfInBounds_toArray, List.set_cons_zero, List.set_cons_succ]
  refine pt_q (v := ?_) rfl (by rfl) ?_ ?_
  rotate_left
  · intro w' hBw'
    first | (go_simp; done) | (go_simp; with_reducible rfl)
  try simp only [Act.put, List.getElem_toArray, List.getElem_cons_zero, List.getElem_cons_succ, List.setIfInBounds_toArray, List.set_cons_zero, List.set_cons_succ]
  refine pt_q (v := ?_) rfl (by rfl) ?_ ?_
  rotate_left
  · intro w' hBw'
    first | (go_simp; done) | (go_simp; with_reducible rfl)
  try simp only [Act.put, List.getElem_toArray, List.getElem_cons_zero, List.getElem_cons_succ, List.setIfInBounds_toArray, List.set_cons_zero, List.set_cons_succ]
  refine pt_load rfl (by rfl) 32 (.tmp 5) rfl w.heap.size 0 rfl (ctC c) _ HF.2.range (fun h => h) Try.underlying32 rfl (by kernel_rfl) ?_
  try simp only [Act.put, List.getElem_toArray, List.getElem_cons_zero, List.getElem_cons_succ, List.setIfInBounds_toArray, List.set_cons_zero, List.set_cons_succ]
  refine pt_q (v := ?_) rfl (by rfl) ?_ ?_
  rotate_left
  · intro w' hBw'
    first | (go_simp; done) | (go_simp; with_reducible rfl)
  try simp only [Act.put, List.getElem_toArray, List.getElem_cons_zero, List.getElem_cons_succ, List.setIfInBounds_toArray, List.set_cons_zero, List.set_cons_succ]
  refine pt_q (v := ?_) rfl (by rfl) ?_ ?_
  rotate_left
  · intro w' hBw'
    first | (go_simp; done) | (go_simp; with_reducible rfl)
  try simp only [Act.put, List.getElem_toArray, List.getElem_cons_zero, List.getElem_cons_succ, List.setIfInBounds_toArray, List.set_cons_zero, List.set_cons_succ]
  refine pt_q (v := ?_) rfl (by rfl) ?_ ?_
  rotate_left
  · intro w' hBw'
    first | (go_simp; done) | (go_simp; with_reducible rfl)
  try simp only [Act.put, List.getElem_toArray, List.getElem_cons_zero, List.getElem_cons_succ, List.setIfInBounds_toArray, List.set_cons_zero, List.set_cons_succ]
  refine pt_c ?_
  refine pt_step rfl (by rfl) (fun K hK => ?_)
  go_simp
  refine (vBookedL_c c hc _ HF.1).mono ?_
  rintro en w4 ⟨rfl, hb⟩
  replace HB := Lib.hid (below_up HB.out hb)
  replace HF := hup _ _ hb HF
  go_wp2_with fail
  refine hK.out _ _ (But.of_below hb) ?_
  clear hK K
  try simp only [Act.put, List.getElem_toArray, List.getElem_cons_zero, List.getElem_cons_succ, List.setIfInBounds_toArray, List.set_cons_zero, List.set_cons_succ]
  refine pt_c ?_
  refine pt_step rfl (by rfl) (fun K hK => ?_)
  go_simp
  refine (add_c _ _ _ hn hm).mono ?_
  rintro en w5 ⟨rfl, hb⟩
  replace HB := Lib.hid (below_up HB.out hb)
  replace HF := hup _ _ hb HF
  go_wp2_with fail
  refine hK.out _ _ (But.of_below hb) ?_
  clear hK K
  try simp only [Act.put, List.getElem_toArray, List.getElem_cons_zero, List.getElem_cons_succ, List.setIfInBounds_toArray, List.set_cons_zero, List.set_cons_succ]
  refine pt_c ?_
  refine pt_step rfl (by rfl) (fun K hK => ?_)
  go_simp
  refine (over_c _ _ _ _ ha0 hA.1 (by omega) hr0).mono ?_
  rintro en w6 ⟨rfl, hb⟩
  replace HB := Lib.hid (below_up HB.out hb)
  replace HF := hup _ _ hb HF
  go_wp2_with fail
  refine hK.out _ _ (But.of_below hb) ?_
  clear hK K
  try simp only [Act.put, List.getElem_toArray, List.getElem_cons_zero, List.getElem_cons_succ, List.setIfInBounds_toArray, List.set_cons_zero, List.set_cons_succ]
  refine pt_q (v := ?_) rfl (by rfl) ?_ ?_
  rotate_left
  · intro w' hBw'
    first | (go_simp; done) | (go_simp; with_reducible rfl)
  try simp only [Act.put, List.getElem_toArray, List.getElem_cons_zero, List.getElem_cons_succ, List.setIfInBounds_toArray, List.set_cons_zero, List.set_cons_succ]
  refine pt_done ?_
  go_wp2
  refine wp_region_pt (fun _ => False) (.q 0 (.q 1 (.q 2 (.q 3 (.q 4 (.q 5 (.q 6 (.q 9 (.q 10 (.c 7 (.c 8 (.c 11 (.q 12 (.q 13 .done)))))))))))))) (by kernel_rfl) (by kernel_rfl) (by kernel_rfl) (by decide) (fun _ _ d _ _ h => by cases d <;> exact h) (fun Wd hBd => ?_)
  try simp only [Act.put, List.getElem_toArray, List.getElem_cons_zero, List.getElem_cons_succ, List.setIfInBounds_toArray, List.set_cons_zero, List.set_cons_succ]
  replace HB := Lib.hid (below_up HB.out hBd)
  replace HF := hup _ _ hBd HF
  have g2 : ∀ w', But (fun _ => False) Wd w' → w'.cell? ⟨w.heap.size, 2, none⟩ = some (.int .u64 c.a) := fun w' hb => hb.cell (HF.2.cell (i := 2) rfl) (fun h => h)
  have g4 : ∀ w', But (fun _ => False) Wd w' → w'.cell? ⟨w.heap.size, 4, none⟩ = some (.int .u64 c.r) := fun w' hb => hb.cell (HF.2.cell (i := 4) rfl) (fun h => h)
  refine pt_q (v := ?_) rfl (by rfl) ?_ ?_
  rotate_left
  · intro w' hBw'
    first | (go_simp; done) | (go_simp; with_reducible rfl)
  try simp only [Act.put, List.getElem_toArray, List.getElem_cons_zero, List.getElem_cons_succ, List.setIfInBounds_toArray, List.set_cons_zero, List.set_cons_succ]
  refine pt_q (v := ?_) rfl (by rfl) ?_ ?_
  rotate_left
  · intro w' hBw'
    first | (go_simp; done) | (go_simp; with_reducible rfl)
  try simp only [Act.put, List.getElem_toArray, List.getElem_cons_zero, List.getElem_cons_succ, List.setIfInBounds_toArray, List.set_cons_zero, List.set_cons_succ]
  refine pt_q (v := ?_) rfl (by rfl) ?_ ?_
  rotate_left
  · intro w' hBw'
    first | (go_simp; done) | (go_simp; with_reducible rfl)
  try simp only [Act.put, List.getElem_toArray, List.getElem_cons_zero, List.getElem_cons_succ, List.setIfInBounds_toArray, List.set_cons_zero, List.set_cons_succ]
  refine pt_q (v := ?_) rfl (by rfl) ?_ ?_
  rotate_left
  · intro w' hBw'
    first | (go_simp; done) | (go_simp; with_reducible rfl)
  try simp only [Act.put, List.getElem_toArray, List.getElem_cons_zero, List.getElem_cons_succ, List.setIfInBounds_toArray, List.set_cons_zero, List.set_cons_succ]
  refine pt_q (v := ?_) rfl (by rfl) ?_ ?_
  rotate_left
  · intro w' hBw'
    first | (go_simp; done) | (go_simp; with_reducible rfl)
  try simp only [Act.put, List.getElem_toArray, List.getElem_cons_zero, List.getElem_cons_succ, List.setIfInBounds_toArray, List.set_cons_zero, List.set_cons_succ]
  refine pt_q (v := ?_) rfl (by rfl) ?_ ?_
  rotate_left
  · intro w' hBw'
    first | (go_simp; done) | (go_simp; with_reducible rfl)
  try simp only [Act.put, List.getElem_toArray, List.getElem_cons_zero, List.getElem_cons_succ, List.setIfInBounds_toArray, List.set_cons_zero, List.set_cons_succ]
  refine pt_q (v := ?_) rfl (by rfl) ?_ ?_
  rotate_left
  · intro w' hBw'
    first | (go_simp; done) | (go_simp; with_reducible rfl)
  try simp only [Act.put, List.getElem_toArray, List.getElem_cons_zero, List.getElem_cons_succ, List.setIfInBounds_toArray, List.set_cons_zero, List.set_cons_succ]
  refine pt_q (v := ?_) rfl (by rfl) ?_ ?_
  rotate_left
  · intro w' hBw'
    first | (go_simp; done) | (go_simp; with_reducible rfl)
  try simp only [Act.put, List.getElem_toArray, List.getElem_cons_zero, List.getElem_cons_succ, List.setIfInBounds_toArray, List.set_cons_zero, List.set_cons_succ]
  refine pt_q (v := ?_) rfl (by rfl) ?_ ?_
  rotate_left
  · intro w' hBw'
    first | (go_simp; done) | (go_simp; with_reducible rfl)
  try simp only [Act.put, List.getElem_toArray, List.getElem_cons_zero, List.getElem_cons_succ, List.setIfInBounds_toArray, List.set_cons_zero, List.set_cons_succ]
  have HR := Lib.hid HR.out
  replace HR := Lib.hid HR.out
  obtain ⟨mx, hmx⟩ : ∃ mx, mx = (if at_ < c.a then c.a else at_) := ⟨_, rfl⟩
  have hR := HR.out
  rw [← hmx] at hR hmx0
  rw [← hmx]
  replace HR := Lib.hid hR
  clear hR hmx
  refine pt_c ?_
  refine pt_step rfl (by rfl) (fun K hK => ?_)
  go_simp
  have hs1 := slU2 Wd _ rfl 28 m 4611686018427387903
  have hb := below_alloc Wd (.cells #[.int .u64 m, .int .u64 4611686018427387903] 28)
  replace HB := Lib.hid (below_up HB.out hb)
  replace HF := hup _ _ hb HF
  go_wp2_with fail
  refine hK.out _ _ (But.of_below hb) ?_
  clear hK K
  try simp only [Act.put, List.getElem_toArray, List.getElem_cons_zero, List.getElem_cons_succ, List.setIfInBounds_toArray, List.set_cons_zero, List.set_cons_succ]
  refine pt_c ?_
  refine pt_step rfl (by rfl) (fun K hK => ?_)
  go_simp
  refine (least_c _ _ _ _ hs1).mono ?_
  rintro en w7 ⟨rfl, hb⟩
  replace HB := Lib.hid (below_up HB.out hb)
  replace HF := hup _ _ hb HF
  go_wp2_with fail
  refine hK.out _ _ (But.of_below hb) ?_
  clear hK K
  try simp only [Act.put, List.getElem_toArray, List.getElem_cons_zero, List.getElem_cons_succ, List.setIfInBounds_toArray, List.set_cons_zero, List.set_cons_succ]
  refine pt_c ?_
  refine pt_step rfl (by rfl) (fun K hK => ?_)
  go_simp
  refine (over_c _ _ _ _ hmx0 hl0 (by omega) hr0).mono ?_
  rintro en w8 ⟨rfl, hb⟩
  replace HB := Lib.hid (below_up HB.out hb)
  replace HF := hup _ _ hb HF
  go_wp2_with fail
  refine hK.out _ _ (But.of_below hb) ?_
  clear hK K
  try simp only [Act.put, List.getElem_toArray, List.getElem_cons_zero, List.getElem_cons_succ, List.setIfInBounds_toArray, List.set_cons_zero, List.set_cons_succ]
  refine pt_q (v := ?_) rfl (by rfl) ?_ ?_
  rotate_left
  · intro w' hBw'
    first | (go_simp; done) | (go_simp; with_reducible rfl)
  try simp only [Act.put, List.getElem_toArray, List.getElem_cons_zero, List.getElem_cons_succ, List.setIfInBounds_toArray, List.set_cons_zero, List.set_cons_succ]
  refine pt_q (v := ?_) rfl (by rfl) ?_ ?_
  rotate_left
  · intro w' hBw'
    first | (go_simp; done) | (go_simp; with_reducible rfl)
  try simp only [Act.put, List.getElem_toArray, List.getElem_cons_zero, List.getElem_cons_succ, List.setIfInBounds_toArray, List.set_cons_zero, List.set_cons_succ]
  refine pt_done ?_
  go_wp2
  all_goals
    go_ret
    refine ⟨?_, HB.out⟩
    rw [HR.out]
    split <;> first | rfl | (exfalso; omega)
end Go.Proofs.Ytbeccnlcidokmaa
