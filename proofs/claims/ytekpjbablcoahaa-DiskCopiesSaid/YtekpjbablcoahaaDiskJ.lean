/-
  The contract of disk's Read.
-/
import Derived.Test.YtekpjbablcoahaaDiskI
namespace Go.Proofs.Ytekpjbablcoahaa
open Go.RowKit Dk
set_option linter.unusedSimpArgs false
set_option linter.unusedVariables false

theorem run_alloc_sec (a : Act) (w : World) (o : Oper) (ho : o.op = .alloc 76) : (execOp a.eval o).run Try.prog w = .ok (.value (.pointer (some ⟨w.heap.size, 0, none⟩))) (w.alloc (.cells (secC zsec).toArray 76)) := by
  have hz := sec_zero
  unfold execOp
  rw [ho]
  simp [go_sem, zeroValue, hz]
set_option maxHeartbeats 4000000 in
set_option maxRecDepth 100000 in
theorem dRead1_c {A P B M : Nat} {u : Value} {d : Disk} (k : Int) (hk : (Lit.int .i64 k).wf = true) (w : World) (h : DiskAt w B M u d) (ha : w.cell? ⟨A, 0, none⟩ = some (.int .i64 k)) (hp : w.cell? ⟨P, 0, none⟩ = some (.pointer (some ⟨B, 0, none⟩))) :
    Calls Try.prog 41 #[.pointer (some ⟨P, 0, none⟩), .pointer (some ⟨A, 0, none⟩)] w (Ret (secV (readF d k)) w) := by
  have hA := World.block_lt_of_cell? w _ ha
  have hP := World.block_lt_of_cell? w _ hp
  have hBl := h.var.lt
  have hMl := h.map.lt
  simp only at hA hP
  have hB1 := below_alloc w (.cells (secC zsec).toArray 76)
  have Z0 := RowAt.new w (secC zsec).toArray 76
  have ka := cell_up hB1 ha
  have kp := cell_up hB1 hp
  have V := h.below hB1
  have hlc := dLast_c d.W u d.W.length 43 #[.pointer (some ⟨A, 0, none⟩)] (fun p => decide (p.1 = k)) _ V.sl dEnters_rq (fun p w1 hb => dRq_c k p w1 (cell_up hb ka))
  have kw := V.var.cell (i := 3) (v := u) rfl
  obtain ⟨au, cu, rfl⟩ := h.sl.len
  have HZ0 := Lib.hid hB1
  have HV := Lib.hid V
  have HK := Lib.hid hk
  have hmf : ∀ (fn : Fn) (first cap : Array Value) (w : World), (Instr.makeFunc fn first cap).run Try.prog w = .ok (.func fn first cap) w := fun _ _ _ _ => rfl
  clear hB1 h V hk
  have hrd : readF d k = if (lastF (fun p => decide (p.1 = k)) d.W).2 = true then (lastF (fun p => decide (p.1 = k)) d.W).1.2 else lie d.E k := rfl
  generalize lastF (fun p => decide (p.1 = k)) d.W = r at *
  obtain ⟨x, is⟩ := r
  have HRD := Lib.hid hrd
  clear hrd
  cases is with
  | true =>
    go_enter Try.func41, Try.ntmps41
    go_wp2_with (first
      | (refine Go.Great.wpList_allocTo rfl (some 2) rfl _ _ (run_alloc_sec _ _ _ rfl) ?_)
      | (go_at_call 42; refine hlc.mono ?_; rintro en w1 ⟨rfl, hb1⟩; have hB2 := Lib.hid (below_up HZ0.out hb1); have Z1 := Z0.below hb1; have hz1 := hB2.out.size)
      | (refine Go.Great.wpList_allocTo rfl (some 3) rfl _ _ (run_alloc_put _ _ _ rfl) ?_)
      | (refine wpList_put_row rfl 78 (.tmp 3) (.tmp 12) rfl w1.heap.size (putC x) rfl rfl (RowAt.new w1 _ _) (by rw [putC_len]; exact (putArr _).symm) (put_info x) (put_one x) (fun w4 h4 hb4 => ?_); have hB4 := Lib.hid (below_up hB2.out ((below_alloc w1 _).trans (hb4.below (fun q e => by omega) (by simp)))); have Z4 : RowAt w4 w.heap.size (secC zsec).toArray 76 := (hb4.same _ (by have := Z1.lt; simp; omega) (by have := Z1.lt; omega)).trans ((below_alloc w1 _).block _ Z1.lt |>.trans Z1); have hrg : w4.rangeAt w1.heap.size 1 (secC x.2) := rangeAt_sub (RowAt.range h4) 1 1 (by omega) (fun j hj => by rw [Nat.add_comm, List.getElem?_cons_succ]); have hz4 := Z1.lt)
      | (refine wpList_load_mid rfl 76 (.tmp 15) rfl w1.heap.size 1 rfl (secC x.2) _ hrg Try.underlying76 rfl (sec_info _) ?_)
      | (refine wpList_put_row rfl 76 (.tmp 2) (.tmp 16) rfl w.heap.size (secC x.2) rfl rfl Z4 (by rw [secC_len]; exact (secArr _).symm) (sec_info _) (sec_one _) (fun w5 h5 hb5 => ?_)))
    have hrr : readF d k = x.2 := by rw [HRD.out]; rfl
    rw [hrr]
    exact bodyPost_ret (results_cell_row Try.results41 _ _ w.heap.size _ _ _ _ rfl h5 Try.underlying76 rfl (by rw [sec_info x.2]; simp)) rfl ⟨rfl, hB4.out.trans (hb5.below (fun q e => by omega) hB4.out.size)⟩
  | false =>
    go_enter Try.func41, Try.ntmps41
    go_wp2_with (first
      | (refine Go.Great.wpList_allocTo rfl (some 2) rfl _ _ (run_alloc_sec _ _ _ rfl) ?_)
      | (go_at_call 42; refine hlc.mono ?_; rintro en w1 ⟨rfl, hb1⟩; have hB2 := Lib.hid (below_up HZ0.out hb1); have Z1 := Z0.below hb1; have hz1 := hB2.out.size)
      | (refine Go.Great.wpList_allocTo rfl (some 3) rfl _ _ (run_alloc_put _ _ _ rfl) ?_)
      | (refine wpList_put_row rfl 78 (.tmp 3) (.tmp 12) rfl w1.heap.size (putC x) rfl rfl (RowAt.new w1 _ _) (by rw [putC_len]; exact (putArr _).symm) (put_info x) (put_one x) (fun w4 h4 hb4 => ?_)))
    have hB3 := (below_alloc w1 (.cells (putC (0, zsec)).toArray 78)).trans (hb4.below (fun q e => by omega) (by simp))
    have hB13 := below_up hb1 hB3
    have V3 := HV.out.below hB13
    have Z3 := Z1.below hB3
    have ka3 := cell_up hB13 ka
    have kp3 := cell_up hB13 kp
    have km3 := V3.var.cell (i := 2) (v := .map (some M)) rfl
    have HZ := Lib.hid (below_up HZ0.out hB13)
    have hzz := Z3.lt
    have hk := HK.out
    clear ka kp kw hlc hb4 hb1 hB3 hB13
    have hrr : readF d k = lie d.E k := by rw [HRD.out]; rfl
    have HRR := Lib.hid hrr
    clear hrr
    refine wp_region_pt (fun i => i = w.heap.size) (.q 0 (.q 1 (.q 2 (.q 3 (.q 4 (.q 5 (.c 6 .done))))))) (by kernel_rfl) (by kernel_rfl) (by kernel_rfl) (by decide) (fun _ _ d _ _ h => by cases d <;> exact h) (fun Wd hBd => ?_)
    try simp only [Act.put, List.getElem_toArray, List.getElem_cons_zero, List.getElem_cons_succ, List.setIfInBounds_toArray, List.set_cons_zero, List.set_cons_succ]
    have V2 := V3.below hBd
    have Z2 := Z3.below hBd
    have qa := cell_up hBd ka3
    have qp := cell_up hBd kp3
    have qm := cell_up hBd km3
    have hzd := hBd.size
    refine pt_q (v := ?_) rfl (by rfl) ?_ ?_
    rotate_left
    · intro w' hBw'
      have p0 := hBw'.cell qa (by omega)
      have p1 := hBw'.cell qp (by omega)
      have p2 := hBw'.cell qm (by omega)
      first | (go_simp; done) | (go_simp; with_reducible rfl)
    try simp only [Act.put, List.getElem_toArray, List.getElem_cons_zero, List.getElem_cons_succ, List.setIfInBounds_toArray, List.set_cons_zero, List.set_cons_succ]
    refine pt_q (v := ?_) rfl (by rfl) ?_ ?_
    rotate_left
    · intro w' hBw'
      have p0 := hBw'.cell qa (by omega)
      have p1 := hBw'.cell qp (by omega)
      have p2 := hBw'.cell qm (by omega)
      first | (go_simp; done) | (go_simp; with_reducible rfl)
    try simp only [Act.put, List.getElem_toArray, List.getElem_cons_zero, List.getElem_cons_succ, List.setIfInBounds_toArray, List.set_cons_zero, List.set_cons_succ]
    refine pt_q (v := ?_) rfl (by rfl) ?_ ?_
    rotate_left
    · intro w' hBw'
      have p0 := hBw'.cell qa (by omega)
      have p1 := hBw'.cell qp (by omega)
      have p2 := hBw'.cell qm (by omega)
      first | (go_simp; done) | (go_simp; with_reducible rfl)
    try simp only [Act.put, List.getElem_toArray, List.getElem_cons_zero, List.getElem_cons_succ, List.setIfInBounds_toArray, List.set_cons_zero, List.set_cons_succ]
    refine pt_q (v := ?_) rfl (by rfl) ?_ ?_
    rotate_left
    · intro w' hBw'
      have p0 := hBw'.cell qa (by omega)
      have p1 := hBw'.cell qp (by omega)
      have p2 := hBw'.cell qm (by omega)
      first | (go_simp; done) | (go_simp; with_reducible rfl)
    try simp only [Act.put, List.getElem_toArray, List.getElem_cons_zero, List.getElem_cons_succ, List.setIfInBounds_toArray, List.set_cons_zero, List.set_cons_succ]
    refine pt_q (v := ?_) rfl (by rfl) ?_ ?_
    rotate_left
    · intro w' hBw'
      have p0 := hBw'.cell qa (by omega)
      have p1 := hBw'.cell qp (by omega)
      have p2 := hBw'.cell qm (by omega)
      first | (go_simp; done) | (go_simp; with_reducible rfl)
    try simp only [Act.put, List.getElem_toArray, List.getElem_cons_zero, List.getElem_cons_succ, List.setIfInBounds_toArray, List.set_cons_zero, List.set_cons_succ]
    refine pt_look rfl (by rfl) 67 (.tmp 20) (.tmp 21) false rfl rfl rfl (fun w' hb => dlook (V2.map.heap (hb.same M V2.map.lt (by omega))) hk) ?_
    try simp only [Act.put, List.getElem_toArray, List.getElem_cons_zero, List.getElem_cons_succ, List.setIfInBounds_toArray, List.set_cons_zero, List.set_cons_succ]
    refine pt_c ?_
    refine pt_put_row rfl (by rfl) 76 _ _ rfl w.heap.size (secC (lie d.E k)) rfl rfl Z2 (by rw [secC_len]; exact (secC_len zsec).symm) (sec_info _) (sec_one _) rfl (fun wA hRA hbA => ?_)
    try simp only [Act.put, List.getElem_toArray, List.getElem_cons_zero, List.getElem_cons_succ, List.setIfInBounds_toArray, List.set_cons_zero, List.set_cons_succ]
    refine pt_done ?_
    have HB := Lib.hid ((below_up HZ.out hBd).trans (hbA.below (fun q e => by omega) (below_up HZ.out hBd).size))
    go_wp2
    exact bodyPost_ret (results_cell_row Try.results41 _ _ w.heap.size _ _ _ _ rfl hRA Try.underlying76 rfl (by rw [sec_info (lie d.E k)]; simp)) rfl ⟨by rw [HRR.out], HB.out⟩

set_option maxHeartbeats 2000000 in
set_option maxRecDepth 100000 in
theorem dRead_c {B M : Nat} {u : Value} {d : Disk} (k : Int) (hk : (Lit.int .i64 k).wf = true) (w : World) (h : DiskAt w B M u d) (hoff : offB k d.many = false) :
    Calls Try.prog 16 #[.pointer (some ⟨B, 0, none⟩), .int .i64 k] w (SecTold (readF d k) w) := by
  have hmf : ∀ (fn : Fn) (first cap : Array Value) (w : World), (Instr.makeFunc fn first cap).run Try.prog w = .ok (.func fn first cap) w := fun _ _ _ _ => rfl
  have hB2 : Below w.heap.size w ((w.alloc (.cells #[.pointer (some ⟨B, 0, none⟩)] 25)).alloc (.cells #[.int .i64 k] 3)) := (below_alloc w _).alloc (by simp) _
  have hp : ((w.alloc (.cells #[.pointer (some ⟨B, 0, none⟩)] 25)).alloc (.cells #[.int .i64 k] 3)).cell? ⟨w.heap.size, 0, none⟩ = some (.pointer (some ⟨B, 0, none⟩)) := cell_up (below_alloc _ _) (cell_new w _ _)
  have ha : ((w.alloc (.cells #[.pointer (some ⟨B, 0, none⟩)] 25)).alloc (.cells #[.int .i64 k] 3)).cell? ⟨w.heap.size + 1, 0, none⟩ = some (.int .i64 k) := by
    have := cell_new (w.alloc (.cells #[.pointer (some ⟨B, 0, none⟩)] 25)) (.int .i64 k) 3
    rwa [World.size_alloc] at this
  have V := h.below hB2
  have ht := dTold_c k 41 #[] #[.pointer (some ⟨w.heap.size, 0, none⟩), .pointer (some ⟨w.heap.size + 1, 0, none⟩)] (readF d k) _ V hoff dEnters_r1 (fun w1 hb => Calls.cast rfl (dRead1_c k hk w1 (V.below hb) (cell_up hb ha) (cell_up hb hp)))
  unfold SecTold at ht
  go_enter Try.func16, Try.ntmps16
  go_wp2_with (go_at_call 40; refine ht.mono ?_; rintro en w3 ⟨b, rfl, hz, hr, hb⟩)
  exact bodyPost_ret (v := .tuple #[.slice (some ⟨b, 0, none⟩) 64 64, .int .i64 0]) (by simp [results, Try.results16, go_sem]) rfl ⟨_, rfl, Nat.le_trans hB2.size hz, hr, below_up hB2 hb⟩
set_option maxHeartbeats 2000000 in
set_option maxRecDepth 100000 in
theorem dReadBad_c {B M : Nat} {u : Value} {d : Disk} (k : Int) (w : World) (h : DiskAt w B M u d) (hoff : offB k d.many = true) :
    Calls Try.prog 16 #[.pointer (some ⟨B, 0, none⟩), .int .i64 k] w (Ret (.tuple #[.slice none 0 0, .int .i64 4]) w) := by
  have hmf : ∀ (fn : Fn) (first cap : Array Value) (w : World), (Instr.makeFunc fn first cap).run Try.prog w = .ok (.func fn first cap) w := fun _ _ _ _ => rfl
  have hB2 : Below w.heap.size w ((w.alloc (.cells #[.pointer (some ⟨B, 0, none⟩)] 25)).alloc (.cells #[.int .i64 k] 3)) := (below_alloc w _).alloc (by simp) _
  have hp : ((w.alloc (.cells #[.pointer (some ⟨B, 0, none⟩)] 25)).alloc (.cells #[.int .i64 k] 3)).cell? ⟨w.heap.size, 0, none⟩ = some (.pointer (some ⟨B, 0, none⟩)) := cell_up (below_alloc _ _) (cell_new w _ _)
  have ha : ((w.alloc (.cells #[.pointer (some ⟨B, 0, none⟩)] 25)).alloc (.cells #[.int .i64 k] 3)).cell? ⟨w.heap.size + 1, 0, none⟩ = some (.int .i64 k) := by
    have := cell_new (w.alloc (.cells #[.pointer (some ⟨B, 0, none⟩)] 25)) (.int .i64 k) 3
    rwa [World.size_alloc] at this
  have V := h.below hB2
  have ht := fun f => dToldBad_c k f _ V hoff
  go_enter Try.func16, Try.ntmps16
  go_wp2_with (go_at_call 40; refine (ht _).mono ?_; rintro en w3 ⟨rfl, hb⟩)
  exact bodyPost_ret (v := .tuple #[.slice none 0 0, .int .i64 4]) (by simp [results, Try.results16, go_sem]) rfl ⟨rfl, below_up hB2 hb⟩
end Go.Proofs.Ytekpjbablcoahaa
