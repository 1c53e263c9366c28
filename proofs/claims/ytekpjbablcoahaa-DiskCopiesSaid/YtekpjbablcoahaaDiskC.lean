/-
  Contracts of disk's told and Lies.
-/
import Derived.Test.YtekpjbablcoahaaDiskB
namespace Go.Proofs.Ytekpjbablcoahaa
open Go.RowKit Dk
set_option linter.unusedSimpArgs false
set_option linter.unusedVariables false

theorem sec_info (s : Sec) : (Try.prog.info? 76).map (·.size) = some (secC s).length := by rw [secC_len]; kernel_rfl
theorem sec_one (s : Sec) : (secC s).all (·.oneCell') = true := List.all_eq_true.2 (one_by8 _)

set_option maxRecDepth 100000 in
theorem dToldAsk {B M A P : Nat} {u : Value} {d : Disk} (k : Int) (w : World) (h : DiskAt w B M u d) (ha : w.cell? ⟨A, 0, none⟩ = some (.int .i64 k)) (hp : w.cell? ⟨P, 0, none⟩ = some (.pointer (some ⟨B, 0, none⟩))) (T : TypeId) :
    Calls Try.prog 26 #[.slice (some ⟨w.heap.size, 0, none⟩) 2 2] (w.alloc (.cells #[.func (.func 35) #[.pointer (some ⟨B, 0, none⟩)] #[], .int .i64 1, .func (.func 53) #[] #[.pointer (some ⟨A, 0, none⟩), .pointer (some ⟨P, 0, none⟩)], .int .i64 4] T)) (Ret (.int .i64 (if offB k d.many = true then 4 else 0)) (w.alloc (.cells #[.func (.func 35) #[.pointer (some ⟨B, 0, none⟩)] #[], .int .i64 1, .func (.func 53) #[] #[.pointer (some ⟨A, 0, none⟩), .pointer (some ⟨P, 0, none⟩)], .int .i64 4] T))) := by
  have hb := below_alloc w (.cells #[.func (.func 35) #[.pointer (some ⟨B, 0, none⟩)] #[], .int .i64 1, .func (.func 53) #[] #[.pointer (some ⟨A, 0, none⟩), .pointer (some ⟨P, 0, none⟩)], .int .i64 4] T)
  have hc := RowAt.new w #[.func (.func 35) #[.pointer (some ⟨B, 0, none⟩)] #[], .int .i64 1, .func (.func 53) #[] #[.pointer (some ⟨A, 0, none⟩), .pointer (some ⟨P, 0, none⟩)], .int .i64 4] T
  have hsl : Sl (w.alloc (.cells #[.func (.func 35) #[.pointer (some ⟨B, 0, none⟩)] #[], .int .i64 1, .func (.func 53) #[] #[.pointer (some ⟨A, 0, none⟩), .pointer (some ⟨P, 0, none⟩)], .int .i64 4] T)) 2 (.slice (some ⟨w.heap.size, 0, none⟩) 2 2) 2 (List.flatMap askC [⟨35, #[.pointer (some ⟨B, 0, none⟩)], #[], 1, false⟩, ⟨53, #[], #[.pointer (some ⟨A, 0, none⟩), .pointer (some ⟨P, 0, none⟩)], 4, offB k d.many⟩]) := by
    refine ⟨by simp, .inr ⟨w.heap.size, 0, 2, rfl, by decide, by decide, fun j v hj => ?_⟩⟩
    rw [Nat.zero_add]
    exact hc.cell (by simpa using hj)
  have hask := dAsked_c [⟨35, #[.pointer (some ⟨B, 0, none⟩)], #[], 1, false⟩, ⟨53, #[], #[.pointer (some ⟨A, 0, none⟩), .pointer (some ⟨P, 0, none⟩)], 4, offB k d.many⟩] _ 2 _ hsl
    (by intro a ha; simp only [List.mem_cons, List.not_mem_nil, or_false] at ha; rcases ha with rfl | rfl; exact dEnters_none; exact dEnters_t1)
    (by
      intro a ha' w1 hb1
      have hB := below_up hb hb1
      have V := h.below hB
      simp only [List.mem_cons, List.not_mem_nil, or_false] at ha'
      rcases ha' with rfl | rfl
      · exact (Calls.cast rfl (dNone_c w1 V)).mono fun en w' ⟨he, hw'⟩ => ⟨he, hw' ▸ Below.refl _ _⟩
      · exact Calls.cast rfl (dT1_c k d.many w1 (cell_up hB ha) (cell_up hB hp) (V.var.cell (i := 1) rfl)))
  have e : askF [⟨35, #[.pointer (some ⟨B, 0, none⟩)], #[], 1, false⟩, ⟨53, #[], #[.pointer (some ⟨A, 0, none⟩), .pointer (some ⟨P, 0, none⟩)], 4, offB k d.many⟩] = if offB k d.many = true then 4 else 0 := by
    unfold askF
    cases offB k d.many <;> simp [List.find?]
  rw [e] at hask
  exact hask

set_option maxHeartbeats 2000000 in
set_option maxRecDepth 100000 in
theorem dToldBad_c {B M : Nat} {u : Value} {d : Disk} (k : Int) (f : Value) (w : World) (h : DiskAt w B M u d) (hoff : offB k d.many = true) :
    Calls Try.prog 40 #[.pointer (some ⟨B, 0, none⟩), .int .i64 k, f] w (Ret (.tuple #[.slice none 0 0, .int .i64 4]) w) := by
  have hmf : ∀ (fn : Fn) (first cap : Array Value) (w : World), (Instr.makeFunc fn first cap).run Try.prog w = .ok (.func fn first cap) w := fun _ _ _ _ => rfl
  have hB2 : Below w.heap.size w ((w.alloc (.cells #[.pointer (some ⟨B, 0, none⟩)] 25)).alloc (.cells #[.int .i64 k] 3)) := (below_alloc w _).alloc (by simp) _
  have hp : ((w.alloc (.cells #[.pointer (some ⟨B, 0, none⟩)] 25)).alloc (.cells #[.int .i64 k] 3)).cell? ⟨w.heap.size, 0, none⟩ = some (.pointer (some ⟨B, 0, none⟩)) := cell_up (below_alloc _ _) (cell_new w _ _)
  have ha : ((w.alloc (.cells #[.pointer (some ⟨B, 0, none⟩)] 25)).alloc (.cells #[.int .i64 k] 3)).cell? ⟨w.heap.size + 1, 0, none⟩ = some (.int .i64 k) := by
    have := cell_new (w.alloc (.cells #[.pointer (some ⟨B, 0, none⟩)] 25)) (.int .i64 k) 3
    rwa [World.size_alloc] at this
  have V := h.below hB2
  have HO := Lib.hid hoff
  clear hoff
  go_enter Try.func40, Try.ntmps40
  go_wp2_with (first
    | (go_at_call 27; refine (dIs_c _ _).mono ?_; rintro en w1 ⟨rfl, hb1⟩; have hask := dToldAsk k w1 (V.below hb1) (cell_up hb1 ha) (cell_up hb1 hp) 73; rw [if_pos HO.out] at hask)
    | (go_at_call 26; refine hask.mono ?_; rintro en w2 ⟨rfl, hb2⟩))
  exact bodyPost_ret (v := .tuple #[.slice none 0 0, .int .i64 4]) (by simp [results, Try.results40, go_sem]) rfl ⟨rfl, below_up (below_up hB2 hb1) (below_up (below_alloc w1 _) hb2)⟩

/-- A sector's bytes are told, in a block of their own. -/
def Dk.SecTold (s : Sec) (w : World) (en : Ending) (w' : World) : Prop := ∃ b, en = .returned (.tuple #[.slice (some ⟨b, 0, none⟩) 64 64, .int .i64 0]) ∧ w.heap.size ≤ b ∧ RowAt w' b (secC s).toArray 76 ∧ Below w.heap.size w w'

set_option maxHeartbeats 2000000 in
set_option maxRecDepth 100000 in
theorem dTold_c {B M : Nat} {u : Value} {d : Disk} (k : Int) (g : FuncId) (fst cap : Array Value) (s : Sec) (w : World) (h : DiskAt w B M u d) (hoff : offB k d.many = false) (hent : Enters Try.prog g)
    (hof : ∀ w1, Below w.heap.size w w1 → Calls Try.prog g (fst ++ cap) w1 (Ret (secV s) w1)) :
    Calls Try.prog 40 #[.pointer (some ⟨B, 0, none⟩), .int .i64 k, .func (.func g) fst cap] w (SecTold s w) := by
  have hmf : ∀ (fn : Fn) (first cap : Array Value) (w : World), (Instr.makeFunc fn first cap).run Try.prog w = .ok (.func fn first cap) w := fun _ _ _ _ => rfl
  have hB2 : Below w.heap.size w ((w.alloc (.cells #[.pointer (some ⟨B, 0, none⟩)] 25)).alloc (.cells #[.int .i64 k] 3)) := (below_alloc w _).alloc (by simp) _
  have hp : ((w.alloc (.cells #[.pointer (some ⟨B, 0, none⟩)] 25)).alloc (.cells #[.int .i64 k] 3)).cell? ⟨w.heap.size, 0, none⟩ = some (.pointer (some ⟨B, 0, none⟩)) := cell_up (below_alloc _ _) (cell_new w _ _)
  have ha : ((w.alloc (.cells #[.pointer (some ⟨B, 0, none⟩)] 25)).alloc (.cells #[.int .i64 k] 3)).cell? ⟨w.heap.size + 1, 0, none⟩ = some (.int .i64 k) := by
    have := cell_new (w.alloc (.cells #[.pointer (some ⟨B, 0, none⟩)] 25)) (.int .i64 k) 3
    rwa [World.size_alloc] at this
  have V := h.below hB2
  have HO := Lib.hid hoff
  have HOF := Lib.hid hof
  clear hoff hof
  unfold Enters at hent
  go_enter Try.func40, Try.ntmps40
  go_wp2_with (first
    | (go_at_call 27; refine (dIs_c _ _).mono ?_; rintro en w1 ⟨rfl, hb1⟩; have hask := dToldAsk k w1 (V.below hb1) (cell_up hb1 ha) (cell_up hb1 hp) 73; rw [if_neg (by rw [HO.out]; decide)] at hask)
    | (go_at_call 26; refine hask.mono ?_; rintro en w2 ⟨rfl, hb2⟩; have HB := Lib.hid (below_up (below_up hB2 hb1) (below_up (below_alloc w1 _) hb2)); have hcl := HOF.out _ HB.out)
    | (refine hcl.mono ?_; rintro en w3 ⟨rfl, hb3⟩; have hB3 := below_up HB.out hb3)
    | (refine wpList_put_row rfl 76 (.tmp 9) (.tmp 20) rfl w3.heap.size (secC s) rfl rfl (RowAt.new w3 _ _) (by rw [secC_len]; rfl) (sec_info s) (sec_one s) (fun w4 h4 hb4 => ?_)))
  have hz3 := hB3.size
  exact bodyPost_ret (v := .tuple #[.slice (some ⟨w3.heap.size, 0, none⟩) 64 64, .int .i64 0]) (by simp [results, Try.results40, go_sem]) rfl
    ⟨_, rfl, hz3, h4, (hB3.alloc hz3 _).trans (hb4.below (fun q e => by omega) (hB3.alloc hz3 _).size)⟩

theorem dEnters_l1 : Enters Try.prog 50 := enters_of Try.func50 (by kernel_rfl) rfl
set_option maxHeartbeats 2000000 in
set_option maxRecDepth 100000 in
theorem dLies1_c {A P B M : Nat} {u : Value} {d : Disk} (k : Int) (hk : (Lit.int .i64 k).wf = true) (w : World) (h : DiskAt w B M u d) (ha : w.cell? ⟨A, 0, none⟩ = some (.int .i64 k)) (hp : w.cell? ⟨P, 0, none⟩ = some (.pointer (some ⟨B, 0, none⟩))) :
    Calls Try.prog 50 #[.pointer (some ⟨P, 0, none⟩), .pointer (some ⟨A, 0, none⟩)] w (Ret (secV (lie d.E k)) w) := by
  have hA := World.block_lt_of_cell? w _ ha
  have hP := World.block_lt_of_cell? w _ hp
  have hBl := h.var.lt
  have hMl := h.map.lt
  simp only at hA hP
  have hB1 := below_alloc w (.cells (secC zsec).toArray 76)
  have Z0 := RowAt.new w (secC zsec).toArray 76
  have ka := cell_up hB1 ha
  have kp := cell_up hB1 hp
  have V := h.below hB1
  have km := V.var.cell (i := 2) (v := .map (some M)) rfl
  have HZ := Lib.hid hB1
  clear hB1
  go_enter Try.func50, Try.ntmps50
  go_wp2
  refine wp_region_pt (fun i => i = w.heap.size) (.q 0 (.q 1 (.q 2 (.q 3 (.q 4 (.q 5 (.c 6 .done))))))) (by kernel_rfl) (by kernel_rfl) (by kernel_rfl) (by decide) (fun _ _ d _ _ h => by cases d <;> exact h) (fun Wd hBd => ?_)
  try simp only [Act.put, List.getElem_toArray, List.getElem_cons_zero, List.getElem_cons_succ, List.setIfInBounds_toArray, List.set_cons_zero, List.set_cons_succ]
  have V2 := V.below hBd
  have Z2 := Z0.below hBd
  have qa := cell_up hBd ka
  have qp := cell_up hBd kp
  have qm := cell_up hBd km
  have hzd := hBd.size
  simp only [World.size_alloc] at hzd
  refine pt_q (v := ?_) rfl (by rfl) ?_ ?_
  rotate_left
  · intro w' hBw'
    have p0 := hBw'.cell qa (by omega)
    have p1 := hBw'.cell qp (by omega)
    have p2 := hBw'.cell qm (by omega)
    first | (go_simp; done) | (go_simp; with_reducible rfl)
  try simp only [Act.put, List.getElem_toArray, List.getElem_cons_zero, List.getElem_cons_succ, List.setIfInBounds_toArray, List.set_cons_zero, List.set_cons_succ]
  refine pt_q (v := ?_) rfl (by rfl) ?_ ?_
  rotate_left
  · intro w' hBw'
    have p0 := hBw'.cell qa (by omega)
    have p1 := hBw'.cell qp (by omega)
    have p2 := hBw'.cell qm (by omega)
    first | (go_simp; done) | (go_simp; with_reducible rfl)
  try simp only [Act.put, List.getElem_toArray, List.getElem_cons_zero, List.getElem_cons_succ, List.setIfInBounds_toArray, List.set_cons_zero, List.set_cons_succ]
  refine pt_q (v := ?_) rfl (by rfl) ?_ ?_
  rotate_left
  · intro w' hBw'
    have p0 := hBw'.cell qa (by omega)
    have p1 := hBw'.cell qp (by omega)
    have p2 := hBw'.cell qm (by omega)
    first | (go_simp; done) | (go_simp; with_reducible rfl)
  try simp only [Act.put, List.getElem_toArray, List.getElem_cons_zero, List.getElem_cons_succ, List.setIfInBounds_toArray, List.set_cons_zero, List.set_cons_succ]
  refine pt_q (v := ?_) rfl (by rfl) ?_ ?_
  rotate_left
  · intro w' hBw'
    have p0 := hBw'.cell qa (by omega)
    have p1 := hBw'.cell qp (by omega)
    have p2 := hBw'.cell qm (by omega)
    first | (go_simp; done) | (go_simp; with_reducible rfl)
  try simp only [Act.put, List.getElem_toArray, List.getElem_cons_zero, List.getElem_cons_succ, List.setIfInBounds_toArray, List.set_cons_zero, List.set_cons_succ]
  refine pt_q (v := ?_) rfl (by rfl) ?_ ?_
  rotate_left
  · intro w' hBw'
    have p0 := hBw'.cell qa (by omega)
    have p1 := hBw'.cell qp (by omega)
    have p2 := hBw'.cell qm (by omega)
    first | (go_simp; done) | (go_simp; with_reducible rfl)
  try simp only [Act.put, List.getElem_toArray, List.getElem_cons_zero, List.getElem_cons_succ, List.setIfInBounds_toArray, List.set_cons_zero, List.set_cons_succ]
  refine pt_look rfl (by rfl) 67 (.tmp 6) (.tmp 7) false rfl rfl rfl (fun w' hb => dlook (V2.map.heap (hb.same M V2.map.lt (by omega))) hk) ?_
  try simp only [Act.put, List.getElem_toArray, List.getElem_cons_zero, List.getElem_cons_succ, List.setIfInBounds_toArray, List.set_cons_zero, List.set_cons_succ]
  refine pt_c ?_
  refine pt_put_row rfl (by rfl) 76 _ _ rfl w.heap.size (secC (lie d.E k)) rfl rfl Z2 (by rw [secC_len]; exact (secC_len zsec).symm) (sec_info _) (sec_one _) rfl (fun wA hRA hbA => ?_)
  try simp only [Act.put, List.getElem_toArray, List.getElem_cons_zero, List.getElem_cons_succ, List.setIfInBounds_toArray, List.set_cons_zero, List.set_cons_succ]
  refine pt_done ?_
  have HB := Lib.hid ((below_up HZ.out hBd).trans (hbA.below (fun q e => by omega) (by omega)))
  go_wp2
  exact bodyPost_ret (results_cell_row Try.results50 _ _ w.heap.size _ _ _ _ rfl hRA Try.underlying76 rfl (by rw [sec_info (lie d.E k)]; simp)) rfl ⟨rfl, HB.out⟩

set_option maxHeartbeats 2000000 in
set_option maxRecDepth 100000 in
theorem dLies_c {B M : Nat} {u : Value} {d : Disk} (k : Int) (hk : (Lit.int .i64 k).wf = true) (w : World) (h : DiskAt w B M u d) (hoff : offB k d.many = false) :
    Calls Try.prog 25 #[.pointer (some ⟨B, 0, none⟩), .int .i64 k] w (SecTold (lie d.E k) w) := by
  have hmf : ∀ (fn : Fn) (first cap : Array Value) (w : World), (Instr.makeFunc fn first cap).run Try.prog w = .ok (.func fn first cap) w := fun _ _ _ _ => rfl
  have hB2 : Below w.heap.size w ((w.alloc (.cells #[.pointer (some ⟨B, 0, none⟩)] 25)).alloc (.cells #[.int .i64 k] 3)) := (below_alloc w _).alloc (by simp) _
  have hp : ((w.alloc (.cells #[.pointer (some ⟨B, 0, none⟩)] 25)).alloc (.cells #[.int .i64 k] 3)).cell? ⟨w.heap.size, 0, none⟩ = some (.pointer (some ⟨B, 0, none⟩)) := cell_up (below_alloc _ _) (cell_new w _ _)
  have ha : ((w.alloc (.cells #[.pointer (some ⟨B, 0, none⟩)] 25)).alloc (.cells #[.int .i64 k] 3)).cell? ⟨w.heap.size + 1, 0, none⟩ = some (.int .i64 k) := by
    have := cell_new (w.alloc (.cells #[.pointer (some ⟨B, 0, none⟩)] 25)) (.int .i64 k) 3
    rwa [World.size_alloc] at this
  have V := h.below hB2
  have ht := dTold_c k 50 #[] #[.pointer (some ⟨w.heap.size, 0, none⟩), .pointer (some ⟨w.heap.size + 1, 0, none⟩)] (lie d.E k) _ V hoff dEnters_l1 (fun w1 hb => Calls.cast rfl (dLies1_c k hk w1 (V.below hb) (cell_up hb ha) (cell_up hb hp)))
  unfold SecTold at ht
  go_enter Try.func25, Try.ntmps25
  go_wp2_with (go_at_call 40; refine ht.mono ?_; rintro en w3 ⟨b, rfl, hz, hr, hb⟩)
  exact bodyPost_ret (v := .tuple #[.slice (some ⟨b, 0, none⟩) 64 64, .int .i64 0]) (by simp [results, Try.results25, go_sem]) rfl ⟨_, rfl, Nat.le_trans hB2.size hz, hr, below_up hB2 hb⟩
set_option maxHeartbeats 2000000 in
set_option maxRecDepth 100000 in
theorem dLiesBad_c {B M : Nat} {u : Value} {d : Disk} (k : Int) (w : World) (h : DiskAt w B M u d) (hoff : offB k d.many = true) :
    Calls Try.prog 25 #[.pointer (some ⟨B, 0, none⟩), .int .i64 k] w (Ret (.tuple #[.slice none 0 0, .int .i64 4]) w) := by
  have hmf : ∀ (fn : Fn) (first cap : Array Value) (w : World), (Instr.makeFunc fn first cap).run Try.prog w = .ok (.func fn first cap) w := fun _ _ _ _ => rfl
  have hB2 : Below w.heap.size w ((w.alloc (.cells #[.pointer (some ⟨B, 0, none⟩)] 25)).alloc (.cells #[.int .i64 k] 3)) := (below_alloc w _).alloc (by simp) _
  have hp : ((w.alloc (.cells #[.pointer (some ⟨B, 0, none⟩)] 25)).alloc (.cells #[.int .i64 k] 3)).cell? ⟨w.heap.size, 0, none⟩ = some (.pointer (some ⟨B, 0, none⟩)) := cell_up (below_alloc _ _) (cell_new w _ _)
  have ha : ((w.alloc (.cells #[.pointer (some ⟨B, 0, none⟩)] 25)).alloc (.cells #[.int .i64 k] 3)).cell? ⟨w.heap.size + 1, 0, none⟩ = some (.int .i64 k) := by
    have := cell_new (w.alloc (.cells #[.pointer (some ⟨B, 0, none⟩)] 25)) (.int .i64 k) 3
    rwa [World.size_alloc] at this
  have V := h.below hB2
  have ht := fun f => dToldBad_c k f _ V hoff
  go_enter Try.func25, Try.ntmps25
  go_wp2_with (go_at_call 40; refine (ht _).mono ?_; rintro en w3 ⟨rfl, hb⟩)
  exact bodyPost_ret (v := .tuple #[.slice none 0 0, .int .i64 4]) (by simp [results, Try.results25, go_sem]) rfl ⟨rfl, below_up hB2 hb⟩
end Go.Proofs.Ytekpjbablcoahaa
