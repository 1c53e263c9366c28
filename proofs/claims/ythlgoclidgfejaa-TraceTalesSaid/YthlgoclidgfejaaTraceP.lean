/-
  The chapter's rows (works): true.
-/
import Derived.Test.YthlgoclidgfejaaTraceN
import Derived.Test.YthlgoclidgfejaaTraceE
import Derived.Test.YthlgoclidgfejaaPiO
import Derived.Test.YthlgoclidgfejaaEq7
namespace Go.Proofs.Ythlgoclidgfejaa
open Go.RowKit Go.Maps Trc
set_option linter.unusedSimpArgs false
set_option linter.unusedVariables false

namespace Trc
abbrev wA : Nm := ⟨1, 0, 0, 1⟩
abbrev wB : Nm := ⟨1, 0, 0, 2⟩
abbrev w0 : Nm := ⟨0, 0, 0, 0⟩
abbrev ev1 : Ev := ⟨3, 3, 0, 0, 0, wA, 4, wA, 0, 0⟩
abbrev ev2 : Ev := ⟨11, 5, 0, 0, 0, wA, 3, wA, 0, 0⟩
abbrev ev3 : Ev := ⟨11, 6, 0, 0, 0, w0, 1, w0, 0, 0⟩
abbrev L3 : List Ev := [ev1, ev2, ev3]
abbrev L2 : List Ev := [ev2, ev1]
theorem L3_at : checkAt L3 = 0 := by decide
theorem L3_e : checkE L3 = 0 := by decide
theorem L2_at : checkAt L2 = 1 := by decide
theorem L2_e : checkE L2 = 360 := by decide
theorem wA_in : wA ∈ nmsOf L3 := by decide
theorem wB_out : wB ∉ nmsOf L3 := by decide
theorem wA_wf : wA.wf := by unfold Nm.wf; decide
theorem wB_wf : wB.wf := by unfold Nm.wf; decide
theorem L3_wf : ∀ e ∈ L3, e.name.wf := by unfold Nm.wf; decide
theorem L3_tl : (tlC wA (firstA (evsOf wA L3)) (evsOf wA L3)) = [.int .u32 1, .int .u32 0, .int .u64 0, .int .u32 1, .int .i64 1, .int .i64 1, .int .i64 0, .int .i64 0, .int .i64 0, .int .i64 1, .int .i64 1, .int .i64 0, .int .i64 0, .int .u64 3, .int .u64 5, .int .u64 5] := rfl
theorem L3_cnt : cntA L3 = #[.int .i64 0, .int .i64 1, .int .i64 0, .int .i64 1, .int .i64 1, .int .i64 0, .int .i64 0] := rfl
end Trc

theorem sl_row {w : World} {B : Nat} {l : List Ev} {n : Nat} {T : TypeId} (h : RowAt w B (l.flatMap evC).toArray T) (hn : l.length = n) (hm : n ≤ maxLen) : Sl w 16 (.slice (some ⟨B, 0, none⟩) n n) n (l.flatMap evC) := by
  subst hn
  exact ⟨rec_len (cells := evC) (fun _ => rfl) l, .inr ⟨B, 0, l.length, rfl, Nat.le_refl _, hm, fun j u hj => by rw [Nat.zero_add]; exact h.cell (by simpa using hj)⟩⟩
theorem ev_range {w : World} {B : Nat} {l : List Ev} {T : TypeId} (h : RowAt w B (l.flatMap evC).toArray T) {k o : Nat} (hk : k < l.length) (ho : o = k * 16) : w.rangeAt B o (evC l[k]) := by
  subst ho
  exact rangeAt_sub h.range (k * 16) (k * 16) (by omega) (fun j hj => (rec_get (cells := evC) (sz := 16) (fun _ => rfl) l k hk j hj).symm)

set_option maxRecDepth 100000 in
theorem num_cs (e : Int) (w : World) : Calls Try.prog 9 #[.int .i64 e] w (fun en w' => en = .returned (.int .i64 e) ∧ w = w') := by
  go_enter Try.func9, Try.ntmps9
  go_wp2
  go_ret
  exact ⟨rfl, rfl⟩
set_option maxRecDepth 100000 in
theorem named_c (n : Int) (w : World) : Calls Try.prog 17 #[.int .u32 n] w (Ret (nmV ⟨1, 0, 0, n⟩) w) := by
  go_enter Try.func17, Try.ntmps17
  go_wp2
  exact bodyPost_ret (v := nmV ⟨1, 0, 0, n⟩) (by simp [results, Try.results17, go_sem]) rfl ⟨rfl, below_alloc _ _⟩

theorem works_mem (w : World) (a b : List Value) (c : List Value) (S T : TypeId) : RowAt (((w.alloc (.cells a.toArray S)).alloc (.cells b.toArray S)).alloc (.cells c.toArray T)) w.heap.size a.toArray S ∧
    RowAt (((w.alloc (.cells a.toArray S)).alloc (.cells b.toArray S)).alloc (.cells c.toArray T)) (w.heap.size + 1) b.toArray S ∧
    RowAt (((w.alloc (.cells a.toArray S)).alloc (.cells b.toArray S)).alloc (.cells c.toArray T)) (w.heap.size + 1 + 1) c.toArray T ∧
    Below w.heap.size w (((w.alloc (.cells a.toArray S)).alloc (.cells b.toArray S)).alloc (.cells c.toArray T)) := by
  refine ⟨((RowAt.new w _ _).alloc _).alloc _, ?_, ?_, ((below_alloc w _).alloc (by simp) _).alloc (by simp; omega) _⟩
  · have := RowAt.new (w.alloc (.cells a.toArray S)) b.toArray S
    rw [show (w.alloc (.cells a.toArray S)).heap.size = w.heap.size + 1 by simp] at this
    exact this.alloc _
  · have := RowAt.new ((w.alloc (.cells a.toArray S)).alloc (.cells b.toArray S)) c.toArray T
    rw [show ((w.alloc (.cells a.toArray S)).alloc (.cells b.toArray S)).heap.size = w.heap.size + 1 + 1 by simp] at this
    exact this

namespace Trc
abbrev tl3 : List Value := [.int .u32 1, .int .u32 0, .int .u64 0, .int .u32 1, .int .i64 1, .int .i64 1, .int .i64 0, .int .i64 0, .int .i64 0, .int .i64 1, .int .i64 1, .int .i64 0, .int .i64 0, .int .u64 3, .int .u64 5, .int .u64 5]
abbrev ck3 : List Value := [.int .i64 0, .int .i64 1, .int .i64 0, .int .i64 1, .int .i64 1, .int .i64 0, .int .i64 0]
end Trc

set_option maxHeartbeats 4000000 in
set_option maxRecDepth 100000 in
theorem works_c (w : World) : Calls Try.prog 6 #[] w (Ret (.bool true) w) := by
  have HB := Lib.hid (Below.refl w.heap.size w)
  go_enter Try.func6, Try.ntmps6
  go_wp2_with (go_at_call 17; refine (named_c _ _).mono ?_; rintro en ww ⟨rfl, hb⟩; have HB := Lib.hid (below_up HB.out hb); clear hb)
  obtain ⟨RA, RB, RC, hbm⟩ := works_mem ww (nmC wA) (nmC wB) (L3.flatMap evC) 39 48
  have hck := checkT_c L3 _ 3 _ (sl_row RC rfl (by decide)) (by decide)
  rw [L3_at, L3_e] at hck
  refine hck.mono ?_
  rintro en w3 ⟨rfl, hb3⟩
  have HB := Lib.hid (below_up (below_up HB.out hbm) hb3)
  have RA := RA.below hb3
  have RB := RB.below hb3
  have RC := RC.below hb3
  clear hbm hb3 hck
  go_wp2_with (refine wpList_load_mid rfl 39 (.tmp 1) rfl ww.heap.size 0 rfl (nmC wA) _ RA.range Try.underlying39 rfl (by kernel_rfl) ?_)
  have hof := of_in wA L3 _ 3 _ (sl_row RC rfl (by decide)) (by decide) L3_wf wA_wf wA_in
  rw [L3_tl] at hof
  refine hof.mono ?_
  rintro en w4 ⟨rfl, hb4⟩
  have HB := Lib.hid (below_up (below_up HB.out hb4) (below_alloc w4 (.cells tl3.toArray 51)))
  have RA := (RA.below hb4).alloc (.cells tl3.toArray 51)
  have RB := (RB.below hb4).alloc (.cells tl3.toArray 51)
  have RC := (RC.below hb4).alloc (.cells tl3.toArray 51)
  have RT := RowAt.new w4 tl3.toArray 51
  clear hof hb4
  go_wp2_with fail
  have hct := countsT_c L3 _ 3 _ (sl_row RC rfl (by decide)) (by decide)
  rw [L3_cnt] at hct
  refine hct.mono ?_
  rintro en w5 ⟨rfl, hb5⟩
  have HB := Lib.hid (below_up (below_up HB.out hb5) (below_alloc w5 (.cells ck3.toArray 30)))
  have RA := (RA.below hb5).alloc (.cells ck3.toArray 30)
  have RB := (RB.below hb5).alloc (.cells ck3.toArray 30)
  have RC := (RC.below hb5).alloc (.cells ck3.toArray 30)
  have RT := (RT.below hb5).alloc (.cells ck3.toArray 30)
  have RK := RowAt.new w5 ck3.toArray 30
  clear hct hb5
  go_wp2_with (refine wpList_load_mid rfl 39 (.tmp 2) rfl (ww.heap.size + 1) 0 rfl (nmC wB) _ RB.range Try.underlying39 rfl (by kernel_rfl) ?_)
  have hof := of_out wB L3 _ 3 _ (sl_row RC rfl (by decide)) (by decide) L3_wf wB_wf wB_out
  refine hof.mono ?_
  rintro en w6 ⟨rfl, hb6⟩
  have HB := Lib.hid (below_up (below_up HB.out hb6) (below_alloc w6 (.cells zeroTale.toArray 51)))
  have RA := (RA.below hb6).alloc (.cells zeroTale.toArray 51)
  have RB := (RB.below hb6).alloc (.cells zeroTale.toArray 51)
  have RC := (RC.below hb6).alloc (.cells zeroTale.toArray 51)
  have RT := (RT.below hb6).alloc (.cells zeroTale.toArray 51)
  have RK := (RK.below hb6).alloc (.cells zeroTale.toArray 51)
  clear hof hb6
  go_wp2_with fail
  refine wp_region_pi [(0, false), (1, false), (2, false), (3, false), (4, false), (5, false), (6, true), (7, true), (8, false), (9, false), (10, false), (11, false), (12, false)] (by kernel_rfl) (by kernel_rfl) (by kernel_rfl) rfl (fun _ _ d _ _ h => by cases d <;> exact h) (fun Wd hBd => ?_)
  try simp only [Act.put, List.getElem_toArray, List.getElem_cons_zero, List.getElem_cons_succ, List.setIfInBounds_toArray, List.set_cons_zero, List.set_cons_succ]
  have RA := RA.below hBd
  have RB := RB.below hBd
  have RC := RC.below hBd
  have RT := RT.below hBd
  have RK := RK.below hBd
  have s3 := sl_row RC (n := 3) rfl (by decide)
  refine pi_q (v := ?_) rfl (by rfl) ?_ ?_
  rotate_left
  · intro w' hBw'
    first | (go_simp; done) | (go_simp; with_reducible rfl)
  try simp only [Act.put, List.getElem_toArray, List.getElem_cons_zero, List.getElem_cons_succ, List.setIfInBounds_toArray, List.set_cons_zero, List.set_cons_succ]
  refine pi_q (v := ?_) rfl (by rfl) ?_ ?_
  rotate_left
  · intro w' hBw'
    first | (go_simp; done) | (go_simp; with_reducible rfl)
  try simp only [Act.put, List.getElem_toArray, List.getElem_cons_zero, List.getElem_cons_succ, List.setIfInBounds_toArray, List.set_cons_zero, List.set_cons_succ]
  refine pi_load rfl (by rfl) 48 (.tmp 47) rfl (ww.heap.size + 1 + 1) 16 rfl (evC ev2) _ (ev_range (l := L3) RC (k := 1) (by decide) rfl) Try.underlying48 rfl (by kernel_rfl) ?_
  try simp only [Act.put, List.getElem_toArray, List.getElem_cons_zero, List.getElem_cons_succ, List.setIfInBounds_toArray, List.set_cons_zero, List.set_cons_succ]
  refine pi_q (v := ?_) rfl (by rfl) ?_ ?_
  rotate_left
  · intro w' hBw'
    first | (go_simp; done) | (go_simp; with_reducible rfl)
  try simp only [Act.put, List.getElem_toArray, List.getElem_cons_zero, List.getElem_cons_succ, List.setIfInBounds_toArray, List.set_cons_zero, List.set_cons_succ]
  refine pi_q (v := ?_) rfl (by rfl) ?_ ?_
  rotate_left
  · intro w' hBw'
    first | (go_simp; done) | (go_simp; with_reducible rfl)
  try simp only [Act.put, List.getElem_toArray, List.getElem_cons_zero, List.getElem_cons_succ, List.setIfInBounds_toArray, List.set_cons_zero, List.set_cons_succ]
  refine pi_load rfl (by rfl) 48 (.tmp 50) rfl (ww.heap.size + 1 + 1) 0 rfl (evC ev1) _ (ev_range (l := L3) RC (k := 0) (by decide) rfl) Try.underlying48 rfl (by kernel_rfl) ?_
  try simp only [Act.put, List.getElem_toArray, List.getElem_cons_zero, List.getElem_cons_succ, List.setIfInBounds_toArray, List.set_cons_zero, List.set_cons_succ]
  refine pi_c rfl (by rfl) (fun K hK => ?_)
  go_simp
  have R2 := RowAt.new Wd (L2.flatMap evC).toArray 48
  have RT := RT.alloc (.cells (L2.flatMap evC).toArray 48)
  have RK := RK.alloc (.cells (L2.flatMap evC).toArray 48)
  have hb8 := below_alloc Wd (.cells (L2.flatMap evC).toArray 48)
  go_wp2_with fail
  refine hK.out _ _ hb8 ?_
  clear hK K
  try simp only [Act.put, List.getElem_toArray, List.getElem_cons_zero, List.getElem_cons_succ, List.setIfInBounds_toArray, List.set_cons_zero, List.set_cons_succ]
  refine pi_c rfl (by rfl) (fun K hK => ?_)
  go_simp
  have hck2 := checkT_c L2 _ 2 _ (sl_row R2 rfl (by decide)) (by decide)
  rw [L2_at, L2_e] at hck2
  refine hck2.mono ?_
  rintro en w9 ⟨rfl, hb9⟩
  have RT := RT.below hb9
  have RK := RK.below hb9
  go_wp2_with fail
  refine hK.out _ _ hb9 ?_
  clear hK K
  try simp only [Act.put, List.getElem_toArray, List.getElem_cons_zero, List.getElem_cons_succ, List.setIfInBounds_toArray, List.set_cons_zero, List.set_cons_succ]
  refine pi_q (v := ?_) rfl (by rfl) ?_ ?_
  rotate_left
  · intro w' hBw'
    first | (go_simp; done) | (go_simp; with_reducible rfl)
  try simp only [Act.put, List.getElem_toArray, List.getElem_cons_zero, List.getElem_cons_succ, List.setIfInBounds_toArray, List.set_cons_zero, List.set_cons_succ]
  refine pi_q (v := ?_) rfl (by rfl) ?_ ?_
  rotate_left
  · intro w' hBw'
    first | (go_simp; done) | (go_simp; with_reducible rfl)
  try simp only [Act.put, List.getElem_toArray, List.getElem_cons_zero, List.getElem_cons_succ, List.setIfInBounds_toArray, List.set_cons_zero, List.set_cons_succ]
  refine pi_q (v := ?_) rfl (by rfl) ?_ ?_
  rotate_left
  · intro w' hBw'
    first | (go_simp; done) | (go_simp; with_reducible rfl)
  try simp only [Act.put, List.getElem_toArray, List.getElem_cons_zero, List.getElem_cons_succ, List.setIfInBounds_toArray, List.set_cons_zero, List.set_cons_succ]
  refine pi_q (v := ?_) rfl (by rfl) ?_ ?_
  rotate_left
  · intro w' hBw'
    first | (go_simp; done) | (go_simp; with_reducible rfl)
  try simp only [Act.put, List.getElem_toArray, List.getElem_cons_zero, List.getElem_cons_succ, List.setIfInBounds_toArray, List.set_cons_zero, List.set_cons_succ]
  refine pi_q (v := ?_) rfl (by rfl) ?_ ?_
  rotate_left
  · intro w' hBw'
    first | (go_simp; done) | (go_simp; with_reducible rfl)
  try simp only [Act.put, List.getElem_toArray, List.getElem_cons_zero, List.getElem_cons_succ, List.setIfInBounds_toArray, List.set_cons_zero, List.set_cons_succ]
  refine pi_nil ?_
  have HB := Lib.hid (below_up (below_up (below_up HB.out hBd) hb8) hb9)
  have heq := fun w => eq7_same w 0 1 0 1 1 0 0
  have k0 := RK.cell (i := 0) rfl
  have k1 := RK.cell (i := 1) rfl
  have k2 := RK.cell (i := 2) rfl
  have k3 := RK.cell (i := 3) rfl
  have k4 := RK.cell (i := 4) rfl
  have k5 := RK.cell (i := 5) rfl
  have k6 := RK.cell (i := 6) rfl
  have t4 := RT.cell (i := 4) rfl
  have t5 := RT.cell (i := 5) rfl
  have t13 := RT.cell (i := 13) rfl
  have t14 := RT.cell (i := 14) rfl
  have t15 := RT.cell (i := 15) rfl
  clear RA RB RC hb8 hb9 hBd R2 hck2
  go_wp2_with (go_at_call 9; refine (num_cs _ _).mono ?_; rintro en ww2 ⟨rfl, rfl⟩)
  go_ret
  exact ⟨rfl, HB.out⟩
end Go.Proofs.Ythlgoclidgfejaa
