/-
  The contract of Of.
-/
import Derived.Test.YthlgoclidgfejaaTraceM
namespace Go.Proofs.Ythlgoclidgfejaa
open Go.RowKit Go.Maps Trc
set_option linter.unusedSimpArgs false
set_option linter.unusedVariables false

abbrev zeroTale : List Value := [.int .u32 0, .int .u32 0, .int .u64 0, .int .u32 0, .int .i64 0, .int .i64 0, .int .i64 0, .int .i64 0, .int .i64 0, .int .i64 0, .int .i64 0, .int .i64 0, .int .i64 0, .int .u64 0, .int .u64 0, .int .u64 0]

set_option maxHeartbeats 1000000 in
set_option maxRecDepth 100000 in
theorem of_in (x : Nm) (l : List Ev) (v : Value) (n : Nat) (w : World) (hv : Sl w 16 v n (l.flatMap evC)) (hn : n ≤ 4096) (hwf : ∀ e ∈ l, e.name.wf) (hx : x.wf) (hin : x ∈ nmsOf l) :
    Calls Try.prog 13 #[nmV x, v] w (Ret (.tuple #[.agg (tlC x (firstA (evsOf x l)) (evsOf x l)).toArray, .int .i64 0]) w) := by
  have hln := Sl.recs (cells := evC) (sz := 16) (fun _ => rfl) (by decide) hv
  obtain ⟨a, c, rfl⟩ := hv.len
  have hB0 := (below_alloc w (.cells (nmC x).toArray 39)).alloc (by simp) (.cells zeroTale.toArray 51)
  have N1 := (RowAt.new w (nmC x).toArray 39).alloc (.cells zeroTale.toArray 51)
  have R1 := RowAt.new (w.alloc (.cells (nmC x).toArray 39)) zeroTale.toArray 51
  rw [show (w.alloc (.cells (nmC x).toArray 39)).heap.size = w.heap.size + 1 by simp] at R1
  clear hln
  go_enter Try.func13, Try.ntmps13
  go_wp2
  refine wp_region_pi [(0, false), (2, false), (1, true), (3, false), (4, false), (5, false), (6, false), (7, false), (8, false)] (by kernel_rfl) (by kernel_rfl) (by kernel_rfl) rfl (fun _ _ d _ _ h => by cases d <;> exact h) (fun Wd hBd => ?_)
  try simp only [Act.put, List.getElem_toArray, List.getElem_cons_zero, List.getElem_cons_succ, List.setIfInBounds_toArray, List.set_cons_zero, List.set_cons_succ]
  have N2 := N1.below hBd
  have R2 := R1.below hBd
  skip
  refine pi_q (v := ?_) rfl (by rfl) ?_ ?_
  rotate_left
  · intro w' hBw'
    first | (go_simp; done) | (go_simp; with_reducible rfl)
  try simp only [Act.put, List.getElem_toArray, List.getElem_cons_zero, List.getElem_cons_succ, List.setIfInBounds_toArray, List.set_cons_zero, List.set_cons_succ]
  refine pi_load rfl (by rfl) 39 (.tmp 2) rfl w.heap.size 0 rfl (nmC x) _ N2.range Try.underlying39 rfl (by kernel_rfl) ?_
  try simp only [Act.put, List.getElem_toArray, List.getElem_cons_zero, List.getElem_cons_succ, List.setIfInBounds_toArray, List.set_cons_zero, List.set_cons_succ]
  refine pi_c rfl (by rfl) (fun K hK => ?_)
  go_simp
  refine (tales_c l _ n Wd ((hv.up hB0).up hBd) hn hwf).mono ?_
  rintro en w3 ⟨C, M, T, rfl, hT, hN, hB3⟩
  have N3 := N2.below hB3
  have R3 := R2.below hB3
  obtain ⟨⟨xn, b⟩, hm, he⟩ := List.mem_map.1 (by rw [← hN] at hin; exact hin)
  simp only at he
  rw [he] at hm
  clear he xn
  have hRb := hT.rows _ hm
  have hap := (hT.apart _ hm).2.2
  go_wp2_with fail
  refine hK.out _ _ hB3 ?_
  clear hK K
  try simp only [Act.put, List.getElem_toArray, List.getElem_cons_zero, List.getElem_cons_succ, List.setIfInBounds_toArray, List.set_cons_zero, List.set_cons_succ]
  refine pi_look rfl (by rfl) 71 (.tmp 14) (.tmp 15) true rfl (mv := .map (some M)) (xv := nmV x) rfl rfl (fun w' h => tlook_some (hT.map.heap (h.block M hT.map.lt)) hx hm true) ?_
  try simp only [Act.put, List.getElem_toArray, List.getElem_cons_zero, List.getElem_cons_succ, List.setIfInBounds_toArray, List.set_cons_zero, List.set_cons_succ]
  refine pi_q (v := ?_) rfl (by rfl) ?_ ?_
  rotate_left
  · intro w' hBw'
    first | (go_simp; done) | (go_simp; with_reducible rfl)
  try simp only [Act.put, List.getElem_toArray, List.getElem_cons_zero, List.getElem_cons_succ, List.setIfInBounds_toArray, List.set_cons_zero, List.set_cons_succ]
  refine pi_q (v := ?_) rfl (by rfl) ?_ ?_
  rotate_left
  · intro w' hBw'
    first | (go_simp; done) | (go_simp; with_reducible rfl)
  try simp only [Act.put, List.getElem_toArray, List.getElem_cons_zero, List.getElem_cons_succ, List.setIfInBounds_toArray, List.set_cons_zero, List.set_cons_succ]
  refine pi_q (v := ?_) rfl (by rfl) ?_ ?_
  rotate_left
  · intro w' hBw'
    first | (go_simp; done) | (go_simp; with_reducible rfl)
  try simp only [Act.put, List.getElem_toArray, List.getElem_cons_zero, List.getElem_cons_succ, List.setIfInBounds_toArray, List.set_cons_zero, List.set_cons_succ]
  refine pi_q (v := ?_) rfl (by rfl) ?_ ?_
  rotate_left
  · intro w' hBw'
    first | (go_simp; done) | (go_simp; with_reducible rfl)
  try simp only [Act.put, List.getElem_toArray, List.getElem_cons_zero, List.getElem_cons_succ, List.setIfInBounds_toArray, List.set_cons_zero, List.set_cons_succ]
  refine pi_q (v := ?_) rfl (by rfl) ?_ ?_
  rotate_left
  · intro w' hBw'
    first | (go_simp; done) | (go_simp; with_reducible rfl)
  try simp only [Act.put, List.getElem_toArray, List.getElem_cons_zero, List.getElem_cons_succ, List.setIfInBounds_toArray, List.set_cons_zero, List.set_cons_succ]
  refine pi_nil ?_
  go_wp2_with (first
    | (refine wpList_load_mid rfl 51 (.tmp 24) rfl b 0 rfl (tlC x (firstA (evsOf x l)) (evsOf x l)) _ hRb.range Try.underlying51 rfl (by kernel_rfl) ?_)
    | (refine wpList_put_row rfl 51 (.tmp 4) (.tmp 25) rfl (w.heap.size + 1) (tlC x (firstA (evsOf x l)) (evsOf x l)) rfl rfl R3 rfl (by kernel_rfl) rfl ?_; intro w4 R4 hb4))
  have c0 := R4.cell (i := 0) rfl
  have c1 := R4.cell (i := 1) rfl
  have c2 := R4.cell (i := 2) rfl
  have c3 := R4.cell (i := 3) rfl
  have c4 := R4.cell (i := 4) rfl
  have c5 := R4.cell (i := 5) rfl
  have c6 := R4.cell (i := 6) rfl
  have c7 := R4.cell (i := 7) rfl
  have c8 := R4.cell (i := 8) rfl
  have c9 := R4.cell (i := 9) rfl
  have c10 := R4.cell (i := 10) rfl
  have c11 := R4.cell (i := 11) rfl
  have c12 := R4.cell (i := 12) rfl
  have c13 := R4.cell (i := 13) rfl
  have c14 := R4.cell (i := 14) rfl
  have c15 := R4.cell (i := 15) rfl
  exact bodyPost_ret (v := .tuple #[.agg (tlC x (firstA (evsOf x l)) (evsOf x l)).toArray, .int .i64 0]) (by simp [results, Try.results13, go_sem, c0, c1, c2, c3, c4, c5, c6, c7, c8, c9, c10, c11, c12, c13, c14, c15]) rfl ⟨rfl, ((below_up (below_up hB0 hBd) hB3).trans (hb4.below (fun k hk => by omega) (by have := hBd.size; have := hB3.size; simp at *; omega)))⟩

set_option maxHeartbeats 1000000 in
set_option maxRecDepth 100000 in
theorem of_out (x : Nm) (l : List Ev) (v : Value) (n : Nat) (w : World) (hv : Sl w 16 v n (l.flatMap evC)) (hn : n ≤ 4096) (hwf : ∀ e ∈ l, e.name.wf) (hx : x.wf) (hin : x ∉ nmsOf l) :
    Calls Try.prog 13 #[nmV x, v] w (Ret (.tuple #[.agg zeroTale.toArray, .int .i64 5]) w) := by
  have hln := Sl.recs (cells := evC) (sz := 16) (fun _ => rfl) (by decide) hv
  obtain ⟨a, c, rfl⟩ := hv.len
  have hB0 := (below_alloc w (.cells (nmC x).toArray 39)).alloc (by simp) (.cells zeroTale.toArray 51)
  have N1 := (RowAt.new w (nmC x).toArray 39).alloc (.cells zeroTale.toArray 51)
  have R1 := RowAt.new (w.alloc (.cells (nmC x).toArray 39)) zeroTale.toArray 51
  rw [show (w.alloc (.cells (nmC x).toArray 39)).heap.size = w.heap.size + 1 by simp] at R1
  clear hln
  go_enter Try.func13, Try.ntmps13
  go_wp2
  refine wp_region_pi [(0, false), (2, false), (1, true), (3, false), (4, false), (5, false), (6, false), (7, false), (8, false)] (by kernel_rfl) (by kernel_rfl) (by kernel_rfl) rfl (fun _ _ d _ _ h => by cases d <;> exact h) (fun Wd hBd => ?_)
  try simp only [Act.put, List.getElem_toArray, List.getElem_cons_zero, List.getElem_cons_succ, List.setIfInBounds_toArray, List.set_cons_zero, List.set_cons_succ]
  have N2 := N1.below hBd
  have R2 := R1.below hBd
  skip
  refine pi_q (v := ?_) rfl (by rfl) ?_ ?_
  rotate_left
  · intro w' hBw'
    first | (go_simp; done) | (go_simp; with_reducible rfl)
  try simp only [Act.put, List.getElem_toArray, List.getElem_cons_zero, List.getElem_cons_succ, List.setIfInBounds_toArray, List.set_cons_zero, List.set_cons_succ]
  refine pi_load rfl (by rfl) 39 (.tmp 2) rfl w.heap.size 0 rfl (nmC x) _ N2.range Try.underlying39 rfl (by kernel_rfl) ?_
  try simp only [Act.put, List.getElem_toArray, List.getElem_cons_zero, List.getElem_cons_succ, List.setIfInBounds_toArray, List.set_cons_zero, List.set_cons_succ]
  refine pi_c rfl (by rfl) (fun K hK => ?_)
  go_simp
  refine (tales_c l _ n Wd ((hv.up hB0).up hBd) hn hwf).mono ?_
  rintro en w3 ⟨C, M, T, rfl, hT, hN, hB3⟩
  have N3 := N2.below hB3
  have R3 := R2.below hB3
  have hnT : x ∉ T.map (·.1) := by rw [hN]; exact hin
  go_wp2_with fail
  refine hK.out _ _ hB3 ?_
  clear hK K
  try simp only [Act.put, List.getElem_toArray, List.getElem_cons_zero, List.getElem_cons_succ, List.setIfInBounds_toArray, List.set_cons_zero, List.set_cons_succ]
  refine pi_look rfl (by rfl) 71 (.tmp 14) (.tmp 15) true rfl (mv := .map (some M)) (xv := nmV x) rfl rfl (fun w' h => tlook_none (hT.map.heap (h.block M hT.map.lt)) hx hnT true) ?_
  try simp only [Act.put, List.getElem_toArray, List.getElem_cons_zero, List.getElem_cons_succ, List.setIfInBounds_toArray, List.set_cons_zero, List.set_cons_succ]
  refine pi_q (v := ?_) rfl (by rfl) ?_ ?_
  rotate_left
  · intro w' hBw'
    first | (go_simp; done) | (go_simp; with_reducible rfl)
  try simp only [Act.put, List.getElem_toArray, List.getElem_cons_zero, List.getElem_cons_succ, List.setIfInBounds_toArray, List.set_cons_zero, List.set_cons_succ]
  refine pi_q (v := ?_) rfl (by rfl) ?_ ?_
  rotate_left
  · intro w' hBw'
    first | (go_simp; done) | (go_simp; with_reducible rfl)
  try simp only [Act.put, List.getElem_toArray, List.getElem_cons_zero, List.getElem_cons_succ, List.setIfInBounds_toArray, List.set_cons_zero, List.set_cons_succ]
  refine pi_q (v := ?_) rfl (by rfl) ?_ ?_
  rotate_left
  · intro w' hBw'
    first | (go_simp; done) | (go_simp; with_reducible rfl)
  try simp only [Act.put, List.getElem_toArray, List.getElem_cons_zero, List.getElem_cons_succ, List.setIfInBounds_toArray, List.set_cons_zero, List.set_cons_succ]
  refine pi_q (v := ?_) rfl (by rfl) ?_ ?_
  rotate_left
  · intro w' hBw'
    first | (go_simp; done) | (go_simp; with_reducible rfl)
  try simp only [Act.put, List.getElem_toArray, List.getElem_cons_zero, List.getElem_cons_succ, List.setIfInBounds_toArray, List.set_cons_zero, List.set_cons_succ]
  refine pi_q (v := ?_) rfl (by rfl) ?_ ?_
  rotate_left
  · intro w' hBw'
    first | (go_simp; done) | (go_simp; with_reducible rfl)
  try simp only [Act.put, List.getElem_toArray, List.getElem_cons_zero, List.getElem_cons_succ, List.setIfInBounds_toArray, List.set_cons_zero, List.set_cons_succ]
  refine pi_nil ?_
  go_wp2_with (first
    | (refine wpList_put_row rfl 51 (.tmp 4) (.tmp 21) rfl (w.heap.size + 1) zeroTale rfl rfl R3 rfl (by kernel_rfl) rfl ?_; intro w4 R4 hb4))
  have c0 := R4.cell (i := 0) rfl
  have c1 := R4.cell (i := 1) rfl
  have c2 := R4.cell (i := 2) rfl
  have c3 := R4.cell (i := 3) rfl
  have c4 := R4.cell (i := 4) rfl
  have c5 := R4.cell (i := 5) rfl
  have c6 := R4.cell (i := 6) rfl
  have c7 := R4.cell (i := 7) rfl
  have c8 := R4.cell (i := 8) rfl
  have c9 := R4.cell (i := 9) rfl
  have c10 := R4.cell (i := 10) rfl
  have c11 := R4.cell (i := 11) rfl
  have c12 := R4.cell (i := 12) rfl
  have c13 := R4.cell (i := 13) rfl
  have c14 := R4.cell (i := 14) rfl
  have c15 := R4.cell (i := 15) rfl
  exact bodyPost_ret (v := .tuple #[.agg zeroTale.toArray, .int .i64 5]) (by simp [results, Try.results13, go_sem, c0, c1, c2, c3, c4, c5, c6, c7, c8, c9, c10, c11, c12, c13, c14, c15]) rfl ⟨rfl, ((below_up (below_up hB0 hBd) hB3).trans (hb4.below (fun k hk => by omega) (by have := hBd.size; have := hB3.size; simp at *; omega)))⟩
end Go.Proofs.Ythlgoclidgfejaa
