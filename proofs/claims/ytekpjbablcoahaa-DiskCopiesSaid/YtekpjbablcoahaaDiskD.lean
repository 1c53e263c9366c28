/-
  Contracts of disk's Len, Arm, whole.
-/
import Derived.Test.YtekpjbablcoahaaDiskC
namespace Go.Proofs.Ytekpjbablcoahaa
open Go.RowKit Dk
set_option linter.unusedSimpArgs false
set_option linter.unusedVariables false

theorem DiskAt.setLeft {w w' : World} {B M : Nat} {u : Value} {d : Disk} (h : DiskAt w B M u d) (l : Int) (hr : RowAt w' B #[.int .i64 l, .int .i64 d.many, .map (some M), u] 70) (hb : But (· = B) w w') : DiskAt w' B M u ⟨l, d.many, d.E, d.W⟩ :=
  ⟨hr, h.map.heap (hb.same M h.map.lt (fun e => h.ne e.symm)), h.sl.but hb ((h.sl.apart65 h.var (by simp)).imp id fun h k hk => h k hk), h.ne, h.keys⟩
theorem DiskAt.lay {w w' : World} {B M : Nat} {u : Value} {d : Disk} (h : DiskAt w B M u d) (k : Int) (s : Sec) (hm : DMap w' M (putF d.E k s)) (hb : But (· = M) w w') : DiskAt w' B M u ⟨d.left, d.many, putF d.E k s, d.W⟩ :=
  ⟨(hb.same B h.var.lt h.ne).trans h.var, hm, h.sl.but hb ((h.sl.apartMap (by decide) h.map).imp id fun h k hk => h k hk), h.ne, h.keys⟩

set_option maxRecDepth 100000 in
theorem dLen_c {B M : Nat} {u : Value} {d : Disk} (w : World) (h : DiskAt w B M u d) : Calls Try.prog 19 #[.pointer (some ⟨B, 0, none⟩)] w fun en w' => en = .returned (.int .i64 d.many) ∧ w = w' := by
  have hc := h.var.cell (i := 1) (v := .int .i64 d.many) rfl
  go_enter Try.func19, Try.ntmps19
  go_wp2_with (go_at_call 35; refine (dNone_c _ h).mono ?_; rintro en w1 ⟨rfl, rfl⟩)
  go_ret
  exact ⟨rfl, rfl⟩
set_option maxRecDepth 100000 in
theorem dArm_c {B M : Nat} {u : Value} {d : Disk} (n : Int) (w : World) (h : DiskAt w B M u d) : Calls Try.prog 13 #[.pointer (some ⟨B, 0, none⟩), .int .i64 n] w fun en w' => en = .returned (.int .i64 0) ∧ DiskAt w' B M u ⟨max (-1) n, d.many, d.E, d.W⟩ ∧ But (· = B) w w' := by
  have hc := h.var.cell (i := 0) (v := .int .i64 d.left) rfl
  have hf := h.var.fz 0
  by_cases h1 : -1 < n
  · have hmax : ∀ ts t w, (Builtin.max_ ts t #[.int .i64 (-1), .int .i64 n]).run Try.prog w = .ok (.int .i64 n) w := fun ts t w => by rw [run_max_int2, if_pos h1]
    rw [show max (-1) n = n by omega]
    clear h1
    go_enter Try.func13, Try.ntmps13
    go_wp2_with (go_at_call 35; refine (dNone_c _ h).mono ?_; rintro en w1 ⟨rfl, rfl⟩)
    go_ret
    exact ⟨rfl, h.setLeft n (h.var.set 0 _) (But.setCell _ _ _ (.inl rfl)), But.setCell _ _ _ (.inl rfl)⟩
  · have hmax : ∀ ts t w, (Builtin.max_ ts t #[.int .i64 (-1), .int .i64 n]).run Try.prog w = .ok (.int .i64 (-1)) w := fun ts t w => by rw [run_max_int2, if_neg h1]
    rw [show max (-1) n = -1 by omega]
    clear h1
    go_enter Try.func13, Try.ntmps13
    go_wp2_with (go_at_call 35; refine (dNone_c _ h).mono ?_; rintro en w1 ⟨rfl, rfl⟩)
    go_ret
    exact ⟨rfl, h.setLeft (-1) (h.var.set 0 _) (But.setCell _ _ _ (.inl rfl)), But.setCell _ _ _ (.inl rfl)⟩

set_option maxHeartbeats 2000000 in
set_option maxRecDepth 100000 in
theorem dWhole_c {B M : Nat} {u : Value} {d : Disk} (p : Int × Sec) (hk : (Lit.int .i64 p.1).wf = true) (w : World) (h : DiskAt w B M u d) : Calls Try.prog 34 #[.pointer (some ⟨B, 0, none⟩), putV p] w fun en w' => en = .returned (.tuple #[]) ∧ DiskAt w' B M u ⟨d.left, d.many, putF d.E p.1 p.2, d.W⟩ ∧ But (· = M) w w' := by
  have hBl := h.var.lt
  have hMl := h.map.lt
  have hne := h.ne
  have hB1 := below_alloc w (.cells (putC p).toArray 78)
  have Z0 := RowAt.new w (putC p).toArray 78
  have V := h.below hB1
  have HZ := Lib.hid hB1
  clear hB1
  go_enter Try.func34, Try.ntmps34
  go_wp2
  refine wp_region_pt (fun i => i = M) (.q 0 (.q 1 (.q 2 (.q 3 (.q 4 (.q 5 (.q 6 (.q 7 (.c 8 .done))))))))) (by kernel_rfl) (by kernel_rfl) (by kernel_rfl) (by decide) (fun _ _ d _ _ h => by cases d <;> exact h) (fun Wd hBd => ?_)
  try simp only [Act.put, List.getElem_toArray, List.getElem_cons_zero, List.getElem_cons_succ, List.setIfInBounds_toArray, List.set_cons_zero, List.set_cons_succ]
  have V2 := V.below hBd
  have Z2 := Z0.below hBd
  have qm := V2.var.cell (i := 2) (v := .map (some M)) rfl
  have qk := Z2.cell (i := 0) (v := .int .i64 p.1) (by simp)
  have hzd := hBd.size
  simp only [World.size_alloc] at hzd
  have hrg : Wd.rangeAt w.heap.size 1 (secC p.2) := fun j v hj => by have := Z2.range (j + 1) v (by simpa using hj); rwa [show 0 + (j + 1) = 1 + j by omega] at this
  obtain ⟨wA, hput, hmA, hbut⟩ := dput V2.map p.2 hk
  refine pt_q (v := ?_) rfl (by rfl) ?_ ?_
  rotate_left
  · intro w' hBw'
    have p0 := hBw'.cell qm hne
    have p1 := hBw'.cell qk (by omega)
    first | (go_simp; done) | (go_simp; with_reducible rfl)
  try simp only [Act.put, List.getElem_toArray, List.getElem_cons_zero, List.getElem_cons_succ, List.setIfInBounds_toArray, List.set_cons_zero, List.set_cons_succ]
  refine pt_q (v := ?_) rfl (by rfl) ?_ ?_
  rotate_left
  · intro w' hBw'
    have p0 := hBw'.cell qm hne
    have p1 := hBw'.cell qk (by omega)
    first | (go_simp; done) | (go_simp; with_reducible rfl)
  try simp only [Act.put, List.getElem_toArray, List.getElem_cons_zero, List.getElem_cons_succ, List.setIfInBounds_toArray, List.set_cons_zero, List.set_cons_succ]
  refine pt_q (v := ?_) rfl (by rfl) ?_ ?_
  rotate_left
  · intro w' hBw'
    have p0 := hBw'.cell qm hne
    have p1 := hBw'.cell qk (by omega)
    first | (go_simp; done) | (go_simp; with_reducible rfl)
  try simp only [Act.put, List.getElem_toArray, List.getElem_cons_zero, List.getElem_cons_succ, List.setIfInBounds_toArray, List.set_cons_zero, List.set_cons_succ]
  refine pt_q (v := ?_) rfl (by rfl) ?_ ?_
  rotate_left
  · intro w' hBw'
    have p0 := hBw'.cell qm hne
    have p1 := hBw'.cell qk (by omega)
    first | (go_simp; done) | (go_simp; with_reducible rfl)
  try simp only [Act.put, List.getElem_toArray, List.getElem_cons_zero, List.getElem_cons_succ, List.setIfInBounds_toArray, List.set_cons_zero, List.set_cons_succ]
  refine pt_q (v := ?_) rfl (by rfl) ?_ ?_
  rotate_left
  · intro w' hBw'
    have p0 := hBw'.cell qm hne
    have p1 := hBw'.cell qk (by omega)
    first | (go_simp; done) | (go_simp; with_reducible rfl)
  try simp only [Act.put, List.getElem_toArray, List.getElem_cons_zero, List.getElem_cons_succ, List.setIfInBounds_toArray, List.set_cons_zero, List.set_cons_succ]
  refine pt_q (v := ?_) rfl (by rfl) ?_ ?_
  rotate_left
  · intro w' hBw'
    have p0 := hBw'.cell qm hne
    have p1 := hBw'.cell qk (by omega)
    first | (go_simp; done) | (go_simp; with_reducible rfl)
  try simp only [Act.put, List.getElem_toArray, List.getElem_cons_zero, List.getElem_cons_succ, List.setIfInBounds_toArray, List.set_cons_zero, List.set_cons_succ]
  refine pt_q (v := ?_) rfl (by rfl) ?_ ?_
  rotate_left
  · intro w' hBw'
    have p0 := hBw'.cell qm hne
    have p1 := hBw'.cell qk (by omega)
    first | (go_simp; done) | (go_simp; with_reducible rfl)
  try simp only [Act.put, List.getElem_toArray, List.getElem_cons_zero, List.getElem_cons_succ, List.setIfInBounds_toArray, List.set_cons_zero, List.set_cons_succ]
  refine pt_load rfl (by rfl) 76 (.tmp 10) rfl w.heap.size 1 rfl (secC p.2) _ hrg (by omega) Try.underlying76 rfl (sec_info _) ?_
  try simp only [Act.put, List.getElem_toArray, List.getElem_cons_zero, List.getElem_cons_succ, List.setIfInBounds_toArray, List.set_cons_zero, List.set_cons_succ]
  refine pt_c ?_
  refine pt_put rfl (by rfl) 67 (.tmp 7) (.tmp 9) (.tmp 11) rfl rfl rfl rfl hput hbut ?_
  try simp only [Act.put, List.getElem_toArray, List.getElem_cons_zero, List.getElem_cons_succ, List.setIfInBounds_toArray, List.set_cons_zero, List.set_cons_succ]
  refine pt_done ?_
  have HB := Lib.hid (But.trans (O := (· = M)) (But.of_below (below_up HZ.out hBd)) hbut)
  have HD := Lib.hid (V2.lay p.1 p.2 hmA hbut)
  go_wp2
  go_end0
  exact ⟨rfl, HD.out, HB.out⟩
end Go.Proofs.Ytekpjbablcoahaa
