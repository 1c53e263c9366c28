/-
  The contract of Add.
-/
import Derived.Test.YtgbpdchdcbnoaaaConE
import Derived.Test.YtgbpdchdcbnoaaaFork
namespace Go.Proofs.Ytgbpdchdcbnoaaa
open Go.RowKit Vol
set_option linter.unusedSimpArgs false
set_option linter.unusedVariables false

theorem slLists3 (w : World) (k : Nat) (hk : k = w.heap.size) (T : TypeId) (x y z : Value) : Sl (w.alloc (.cells #[x, y, z] T)) 1 (.slice (some ⟨k, 0, none⟩) 3 3) 3 [x, y, z] := by
  subst hk
  refine ⟨by simp, .inr ⟨w.heap.size, 0, 3, rfl, by decide, by decide, fun j u hj => ?_⟩⟩
  have : (w.alloc (.cells #[x, y, z] T)).heap[w.heap.size]? = some (.cells #[x, y, z] T) := heap_alloc_new w _
  simp only [World.cell?, this, Nat.zero_add]
  simpa using hj
theorem slOne (w : World) (k : Nat) (hk : k = w.heap.size) (T : TypeId) (c : Ct) : Sl (w.alloc (.cells (ctC c).toArray T)) 5 (.slice (some ⟨k, 0, none⟩) 1 1) 1 ([c].flatMap ctC) := by
  subst hk
  refine ⟨by simp, .inr ⟨w.heap.size, 0, 1, rfl, by decide, by decide, fun j u hj => ?_⟩⟩
  have : (w.alloc (.cells (ctC c).toArray T)).heap[w.heap.size]? = some (.cells (ctC c).toArray T) := heap_alloc_new w _
  simp only [World.cell?, this, Nat.zero_add]
  simpa using hj
/-- What Add has at hand: its own two blocks, the plan. -/
structure AddW (w w1 : World) (B : Nat) (v : Value) (L : List Ct) (c : Ct) : Prop where
  below : Below w.heap.size w w1
  ptr : w1.cell? ⟨w.heap.size, 0, none⟩ = some (.pointer (some ⟨B, 0, none⟩))
  ct : RowAt w1 (w.heap.size + 1) (ctC c).toArray 27
  plan : PlanAt w1 B v L
theorem AddW.up {w w1 w2 : World} {B : Nat} {v : Value} {L : List Ct} {c : Ct} (h : AddW w w1 B v L c) (hb : Below w1.heap.size w1 w2) : AddW w w2 B v L c :=
  ⟨below_up h.below hb, cell_up hb h.ptr, h.ct.below hb, h.plan.below hb⟩

set_option maxHeartbeats 4000000 in
set_option maxRecDepth 100000 in
theorem pAdd_c {B : Nat} {v : Value} {L : List Ct} (c : Ct) (hw : c.Wf) (hL : L.length ≤ 100000) (hm : okB c = true → clashB L c = false → Mono L c) (w : World) (h : PlanAt w B v L) :
    Calls Try.prog 13 #[.pointer (some ⟨B, 0, none⟩), ctV c] w fun en w' => ∃ v', en = .returned (.int .i64 (Vol.addF L c).1) ∧ PlanAt w' B v' (Vol.addF L c).2 ∧ But (· = B) w w' ∧ (v' = v ∨ ∀ k, v'.ownBlock = some k → w.heap.size ≤ k ∧ k < w'.heap.size) := by
  have hmf : ∀ (fn : Fn) (first cap : Array Value) (w : World), (Instr.makeFunc fn first cap).run Try.prog w = .ok (.func fn first cap) w := fun _ _ _ _ => rfl
  have hBl := h.var.lt
  have hB2 : Below w.heap.size w ((w.alloc (.cells #[.pointer (some ⟨B, 0, none⟩)] 33)).alloc (.cells (ctC c).toArray 27)) := (below_alloc w _).alloc (by simp) _
  have V2 : AddW w ((w.alloc (.cells #[.pointer (some ⟨B, 0, none⟩)] 33)).alloc (.cells (ctC c).toArray 27)) B v L c := ⟨hB2, cell_up (below_alloc _ _) (cell_new w _ _), by have := RowAt.new (w.alloc (.cells #[.pointer (some ⟨B, 0, none⟩)] 33)) (ctC c).toArray 27; rwa [World.size_alloc] at this, h.below hB2⟩
  have hsl : Sl (((w.alloc (.cells #[.pointer (some ⟨B, 0, none⟩)] 33)).alloc (.cells (ctC c).toArray 27)).alloc (.cells [.func (.func 30) #[.pointer (some ⟨B, 0, none⟩)] #[], .int .i64 1, .func (.func 31) #[] #[.pointer (some ⟨w.heap.size + 1, 0, none⟩)], .int .i64 2, .func (.func 32) #[] #[.pointer (some ⟨w.heap.size, 0, none⟩), .pointer (some ⟨w.heap.size + 1, 0, none⟩)], .int .i64 270, .func (.func 36) #[] #[.pointer (some ⟨w.heap.size, 0, none⟩)], .int .i64 271].toArray 70)) 2 (.slice (some ⟨w.heap.size + 1 + 1, 0, none⟩) 4 4) 4 [.func (.func 30) #[.pointer (some ⟨B, 0, none⟩)] #[], .int .i64 1, .func (.func 31) #[] #[.pointer (some ⟨w.heap.size + 1, 0, none⟩)], .int .i64 2, .func (.func 32) #[] #[.pointer (some ⟨w.heap.size, 0, none⟩), .pointer (some ⟨w.heap.size + 1, 0, none⟩)], .int .i64 270, .func (.func 36) #[] #[.pointer (some ⟨w.heap.size, 0, none⟩)], .int .i64 271] := by
    have := Sl.of_own (World.ownsRow_lit ((w.alloc (.cells #[.pointer (some ⟨B, 0, none⟩)] 33)).alloc (.cells (ctC c).toArray 27)) [.func (.func 30) #[.pointer (some ⟨B, 0, none⟩)] #[], .int .i64 1, .func (.func 31) #[] #[.pointer (some ⟨w.heap.size + 1, 0, none⟩)], .int .i64 2, .func (.func 32) #[] #[.pointer (some ⟨w.heap.size, 0, none⟩), .pointer (some ⟨w.heap.size + 1, 0, none⟩)], .int .i64 270, .func (.func 36) #[] #[.pointer (some ⟨w.heap.size, 0, none⟩)], .int .i64 271].toArray 4 (size := 2) (e := 70) (base := w.heap.size) (by simp; omega) (by decide) rfl)
    simp only [World.size_alloc] at this
    exact this
  have V3 := V2.up (below_alloc _ (.cells [.func (.func 30) #[.pointer (some ⟨B, 0, none⟩)] #[], .int .i64 1, .func (.func 31) #[] #[.pointer (some ⟨w.heap.size + 1, 0, none⟩)], .int .i64 2, .func (.func 32) #[] #[.pointer (some ⟨w.heap.size, 0, none⟩), .pointer (some ⟨w.heap.size + 1, 0, none⟩)], .int .i64 270, .func (.func 36) #[] #[.pointer (some ⟨w.heap.size, 0, none⟩)], .int .i64 271].toArray 70))
  have hask := cAsked_c [⟨30, #[.pointer (some ⟨B, 0, none⟩)], #[], 1, false⟩, ⟨31, #[], #[.pointer (some ⟨w.heap.size + 1, 0, none⟩)], 2, !okB c⟩, ⟨32, #[], #[.pointer (some ⟨w.heap.size, 0, none⟩), .pointer (some ⟨w.heap.size + 1, 0, none⟩)], 270, clashB L c⟩, ⟨36, #[], #[.pointer (some ⟨w.heap.size, 0, none⟩)], 271, decide (256 ≤ L.length)⟩] _ 4 _ (show Sl (((w.alloc (.cells #[.pointer (some ⟨B, 0, none⟩)] 33)).alloc (.cells (ctC c).toArray 27)).alloc (.cells [.func (.func 30) #[.pointer (some ⟨B, 0, none⟩)] #[], .int .i64 1, .func (.func 31) #[] #[.pointer (some ⟨w.heap.size + 1, 0, none⟩)], .int .i64 2, .func (.func 32) #[] #[.pointer (some ⟨w.heap.size, 0, none⟩), .pointer (some ⟨w.heap.size + 1, 0, none⟩)], .int .i64 270, .func (.func 36) #[] #[.pointer (some ⟨w.heap.size, 0, none⟩)], .int .i64 271].toArray 70)) 2 (.slice (some ⟨w.heap.size + 1 + 1, 0, none⟩) 4 4) 4 ([⟨30, #[.pointer (some ⟨B, 0, none⟩)], #[], 1, false⟩, ⟨31, #[], #[.pointer (some ⟨w.heap.size + 1, 0, none⟩)], 2, !okB c⟩, ⟨32, #[], #[.pointer (some ⟨w.heap.size, 0, none⟩), .pointer (some ⟨w.heap.size + 1, 0, none⟩)], 270, clashB L c⟩, ⟨36, #[], #[.pointer (some ⟨w.heap.size, 0, none⟩)], 271, decide (256 ≤ L.length)⟩].flatMap askC) from hsl)
    (by intro a ha; simp only [List.mem_cons, List.not_mem_nil, or_false] at ha; rcases ha with rfl | rfl | rfl | rfl; exact enters_none; exact enters_add1; exact enters_add2; exact enters_add3)
    (by
      intro a ha w1 hb
      have V := V3.up hb
      simp only [List.mem_cons, List.not_mem_nil, or_false] at ha
      rcases ha with rfl | rfl | rfl | rfl
      · exact (Calls.cast rfl (pNone_c w1 V.plan)).mono fun en w' ⟨he, hw'⟩ => ⟨he, hw' ▸ Below.refl _ _⟩
      · exact Calls.cast rfl (cadd1_c _ c hw w1 V.ct)
      · exact Calls.cast rfl (cadd2_c _ _ c w1 V.ptr V.ct V.plan)
      · exact Calls.cast rfl (cadd3_c _ w1 V.ptr V.plan))
  have HV := Lib.hid V3
  obtain ⟨E, hE⟩ : ∃ E, E = (Vol.addF L c).1 := ⟨_, rfl⟩
  have hEask : askF [⟨30, #[.pointer (some ⟨B, 0, none⟩)], #[], 1, false⟩, ⟨31, #[], #[.pointer (some ⟨w.heap.size + 1, 0, none⟩)], 2, !okB c⟩, ⟨32, #[], #[.pointer (some ⟨w.heap.size, 0, none⟩), .pointer (some ⟨w.heap.size + 1, 0, none⟩)], 270, clashB L c⟩, ⟨36, #[], #[.pointer (some ⟨w.heap.size, 0, none⟩)], 271, decide (256 ≤ L.length)⟩] = E := by
    rw [hE]
    unfold Vol.addF askF
    cases okB c <;> cases clashB L c <;> by_cases h256 : 256 ≤ L.length <;> simp [List.find?, h256]
  rw [hEask] at hask
  rw [← hE]
  have HE := Lib.hid hE
  have HM := Lib.hid hm
  clear hsl V2 V3 hB2 hEask hE hm
  by_cases he0 : E = 0
  · have hF : (Vol.addF L c).2 = insF L c ∧ okB c = true ∧ clashB L c = false ∧ L.length < 256 := by
      have := HE.out
      rw [he0] at this
      unfold Vol.addF at this ⊢
      cases h1 : okB c <;> cases h2 : clashB L c <;> by_cases h3 : 256 ≤ L.length <;> simp [h1, h2, h3] at this ⊢
      omega
    obtain ⟨hF2, hok, hcl, h256⟩ := hF
    rw [hF2]
    have hmono := HM.out hok hcl
    clear hF2 hok hcl
    subst he0
    obtain ⟨i, hi⟩ : ∃ i, i = posF L c := ⟨_, rfl⟩
    have hiL : i ≤ L.length := by rw [hi]; exact posF_le L c
    have HI := Lib.hid hi
    have hsr := fun w hv => search_c L v L.length c w hv hmono (by omega)
    rw [← hi] at hsr
    have HSR := Lib.hid hsr
    clear hi hsr hmono
    go_enter Try.func13, Try.ntmps13
    go_wp2_with (go_at_call 29; refine hask.mono ?_; rintro en w4 ⟨rfl, hb⟩; replace HV := Lib.hid (HV.out.up hb); clear hb)
    refine wp_region_pi [(0, false), (1, false), (2, false), (3, false), (4, false), (5, true), (6, false), (7, false), (8, false), (9, false), (10, false)] (by kernel_rfl) (by kernel_rfl) (by kernel_rfl) rfl (fun _ _ d _ _ h => by cases d <;> exact h) (fun Wd hBd => ?_)
    try simp only [Act.put, List.getElem_toArray, List.getElem_cons_zero, List.getElem_cons_succ, List.setIfInBounds_toArray, List.set_cons_zero, List.set_cons_succ]
    have V := HV.out.up hBd
    have cp : ∀ w', Below Wd.heap.size Wd w' → w'.cell? ⟨w.heap.size, 0, none⟩ = some (.pointer (some ⟨B, 0, none⟩)) := fun w' hb => cell_up hb V.ptr
    have cv : ∀ w', Below Wd.heap.size Wd w' → w'.cell? ⟨B, 0, none⟩ = some v := fun w' hb => cell_up hb (V.plan.var.cell (i := 0) rfl)
    refine pi_q (v := ?_) rfl (by rfl) ?_ ?_
    rotate_left
    · intro w' hBw'
      first | (go_simp; done) | (go_simp; with_reducible rfl)
    try simp only [Act.put, List.getElem_toArray, List.getElem_cons_zero, List.getElem_cons_succ, List.setIfInBounds_toArray, List.set_cons_zero, List.set_cons_succ]
    refine pi_q (v := ?_) rfl (by rfl) ?_ ?_
    rotate_left
    · intro w' hBw'
      first | (go_simp; done) | (go_simp; with_reducible rfl)
    try simp only [Act.put, List.getElem_toArray, List.getElem_cons_zero, List.getElem_cons_succ, List.setIfInBounds_toArray, List.set_cons_zero, List.set_cons_succ]
    refine pi_q (v := ?_) rfl (by rfl) ?_ ?_
    rotate_left
    · intro w' hBw'
      first | (go_simp; done) | (go_simp; with_reducible rfl)
    try simp only [Act.put, List.getElem_toArray, List.getElem_cons_zero, List.getElem_cons_succ, List.setIfInBounds_toArray, List.set_cons_zero, List.set_cons_succ]
    refine pi_q (v := ?_) rfl (by rfl) ?_ ?_
    rotate_left
    · intro w' hBw'
      first | (go_simp; done) | (go_simp; with_reducible rfl)
    try simp only [Act.put, List.getElem_toArray, List.getElem_cons_zero, List.getElem_cons_succ, List.setIfInBounds_toArray, List.set_cons_zero, List.set_cons_succ]
    refine pi_load rfl (by rfl) 27 (.tmp 3) rfl (w.heap.size + 1) 0 rfl (ctC c) _ V.ct.range Try.underlying27 rfl (by kernel_rfl) ?_
    try simp only [Act.put, List.getElem_toArray, List.getElem_cons_zero, List.getElem_cons_succ, List.setIfInBounds_toArray, List.set_cons_zero, List.set_cons_succ]
    refine pi_c rfl (by rfl) (fun K hK => ?_)
    go_simp
    refine (HSR.out _ V.plan.sl).mono ?_
    rintro en w5 ⟨fnd, rfl, hb5⟩
    go_wp2_with fail
    refine hK.out _ _ hb5 ?_
    clear hK K
    try simp only [Act.put, List.getElem_toArray, List.getElem_cons_zero, List.getElem_cons_succ, List.setIfInBounds_toArray, List.set_cons_zero, List.set_cons_succ]
    replace HV := Lib.hid (V.up hb5)
    refine pi_q (v := ?_) rfl (by rfl) ?_ ?_
    rotate_left
    · intro w' hBw'
      first | (go_simp; done) | (go_simp; with_reducible rfl)
    try simp only [Act.put, List.getElem_toArray, List.getElem_cons_zero, List.getElem_cons_succ, List.setIfInBounds_toArray, List.set_cons_zero, List.set_cons_succ]
    refine pi_q (v := ?_) rfl (by rfl) ?_ ?_
    rotate_left
    · intro w' hBw'
      first | (go_simp; done) | (go_simp; with_reducible rfl)
    try simp only [Act.put, List.getElem_toArray, List.getElem_cons_zero, List.getElem_cons_succ, List.setIfInBounds_toArray, List.set_cons_zero, List.set_cons_succ]
    refine pi_q (v := ?_) rfl (by rfl) ?_ ?_
    rotate_left
    · intro w' hBw'
      first | (go_simp; done) | (go_simp; with_reducible rfl)
    try simp only [Act.put, List.getElem_toArray, List.getElem_cons_zero, List.getElem_cons_succ, List.setIfInBounds_toArray, List.set_cons_zero, List.set_cons_succ]
    refine pi_q (v := ?_) rfl (by rfl) ?_ ?_
    rotate_left
    · intro w' hBw'
      first | (go_simp; done) | (go_simp; with_reducible rfl)
    try simp only [Act.put, List.getElem_toArray, List.getElem_cons_zero, List.getElem_cons_succ, List.setIfInBounds_toArray, List.set_cons_zero, List.set_cons_succ]
    refine pi_q (v := ?_) rfl (by rfl) ?_ ?_
    rotate_left
    · intro w' hBw'
      first | (go_simp; done) | (go_simp; with_reducible rfl)
    try simp only [Act.put, List.getElem_toArray, List.getElem_cons_zero, List.getElem_cons_succ, List.setIfInBounds_toArray, List.set_cons_zero, List.set_cons_succ]
    refine pi_nil ?_
    clear V cp cv hb5 hBd
    obtain ⟨av, cvp, hve⟩ := h.sl.len
    subst hve
    go_wp2
    refine wp_region_pt (· = B) (.q 0 (.q 1 (.q 2 (.q 3 (.q 5 (.q 6 (.q 8 (.q 10 (.q 11 (.q 12 (.q 14 (.g 4 (.q 7 (.f 9 (.c 13 (.q 15 (.c 16 (.c 17 (.q 18 (.q 19 (.c 20 .done))))))) 13 (.q 15 (.c 9 (.c 16 (.c 17 (.q 18 (.q 19 (.c 20 .done))))))))) 9 (.f 4 (.q 7 (.c 13 (.q 15 (.c 16 (.c 17 (.q 18 (.q 19 (.c 20 .done)))))))) 13 (.q 15 (.c 4 (.q 7 (.c 16 (.c 17 (.q 18 (.q 19 (.c 20 .done))))))))) 13 (.q 15 (.f 4 (.q 7 (.c 9 (.c 16 (.c 17 (.q 18 (.q 19 (.c 20 .done))))))) 9 (.c 4 (.q 7 (.c 16 (.c 17 (.q 18 (.q 19 (.c 20 .done))))))))))))))))))))) (by kernel_rfl) (by kernel_rfl) (by kernel_rfl) (by decide) (fun _ _ d _ _ h => by cases d <;> exact h) (fun Wd hBd => ?_)
    try simp only [Act.put, List.getElem_toArray, List.getElem_cons_zero, List.getElem_cons_succ, List.setIfInBounds_toArray, List.set_cons_zero, List.set_cons_succ]
    have V := HV.out.up hBd
    have hneB : ¬ w.heap.size = B := by omega
    have hneB1 : ¬ w.heap.size + 1 = B := by omega
    have cp : ∀ w', But (· = B) Wd w' → w'.cell? ⟨w.heap.size, 0, none⟩ = some (.pointer (some ⟨B, 0, none⟩)) := fun w' hb => hb.cell V.ptr hneB
    have cvB := V.plan.var.cell (i := 0) rfl
    obtain ⟨a1, hs1, sl1⟩ := cut_hm slL V.plan.sl i hiL
    obtain ⟨a2, hs2, sl2⟩ := cut_l slL V.plan.sl i hiL
    rw [ct_take] at sl1
    rw [ct_drop] at sl2
    refine pt_q (v := ?_) rfl (by rfl) ?_ ?_
    rotate_left
    · intro w' hBw'
      first | (go_simp; done) | (go_simp; with_reducible rfl)
    try simp only [Act.put, List.getElem_toArray, List.getElem_cons_zero, List.getElem_cons_succ, List.setIfInBounds_toArray, List.set_cons_zero, List.set_cons_succ]
    refine pt_q (v := ?_) rfl (by rfl) ?_ ?_
    rotate_left
    · intro w' hBw'
      first | (go_simp; done) | (go_simp; with_reducible rfl)
    try simp only [Act.put, List.getElem_toArray, List.getElem_cons_zero, List.getElem_cons_succ, List.setIfInBounds_toArray, List.set_cons_zero, List.set_cons_succ]
    refine pt_q (v := ?_) rfl (by rfl) ?_ ?_
    rotate_left
    · intro w' hBw'
      first | (go_simp; done) | (go_simp; with_reducible rfl)
    try simp only [Act.put, List.getElem_toArray, List.getElem_cons_zero, List.getElem_cons_succ, List.setIfInBounds_toArray, List.set_cons_zero, List.set_cons_succ]
    refine pt_q (v := ?_) rfl (by rfl) ?_ ?_
    rotate_left
    · intro w' hBw'
      first | (go_simp; done) | (go_simp; with_reducible rfl)
    try simp only [Act.put, List.getElem_toArray, List.getElem_cons_zero, List.getElem_cons_succ, List.setIfInBounds_toArray, List.set_cons_zero, List.set_cons_succ]
    refine pt_q (v := ?_) rfl (by rfl) ?_ ?_
    rotate_left
    · intro w' hBw'
      first | (go_simp; done) | (go_simp; with_reducible rfl)
    try simp only [Act.put, List.getElem_toArray, List.getElem_cons_zero, List.getElem_cons_succ, List.setIfInBounds_toArray, List.set_cons_zero, List.set_cons_succ]
    refine pt_q (v := ?_) rfl (by rfl) ?_ ?_
    rotate_left
    · intro w' hBw'
      first | (go_simp; done) | (go_simp; with_reducible rfl)
    try simp only [Act.put, List.getElem_toArray, List.getElem_cons_zero, List.getElem_cons_succ, List.setIfInBounds_toArray, List.set_cons_zero, List.set_cons_succ]
    refine pt_load rfl (by rfl) 27 (.tmp 3) rfl (w.heap.size + 1) 0 rfl (ctC c) _ V.ct.range hneB1 Try.underlying27 rfl (by kernel_rfl) ?_
    try simp only [Act.put, List.getElem_toArray, List.getElem_cons_zero, List.getElem_cons_succ, List.setIfInBounds_toArray, List.set_cons_zero, List.set_cons_succ]
    refine pt_q (v := ?_) rfl (by rfl) ?_ ?_
    rotate_left
    · intro w' hBw'
      first | (go_simp; done) | (go_simp; with_reducible rfl)
    try simp only [Act.put, List.getElem_toArray, List.getElem_cons_zero, List.getElem_cons_succ, List.setIfInBounds_toArray, List.set_cons_zero, List.set_cons_succ]
    refine pt_q (v := ?_) rfl (by rfl) ?_ ?_
    rotate_left
    · intro w' hBw'
      first | (go_simp; done) | (go_simp; with_reducible rfl)
    try simp only [Act.put, List.getElem_toArray, List.getElem_cons_zero, List.getElem_cons_succ, List.setIfInBounds_toArray, List.set_cons_zero, List.set_cons_succ]
    refine pt_q (v := ?_) rfl (by rfl) ?_ ?_
    rotate_left
    · intro w' hBw'
      first | (go_simp; done) | (go_simp; with_reducible rfl)
    try simp only [Act.put, List.getElem_toArray, List.getElem_cons_zero, List.getElem_cons_succ, List.setIfInBounds_toArray, List.set_cons_zero, List.set_cons_succ]
    refine pt_q (v := ?_) rfl (by rfl) ?_ ?_
    rotate_left
    · intro w' hBw'
      first | (go_simp; done) | (go_simp; with_reducible rfl)
    try simp only [Act.put, List.getElem_toArray, List.getElem_cons_zero, List.getElem_cons_succ, List.setIfInBounds_toArray, List.set_cons_zero, List.set_cons_succ]
    refine pt_g ?_ ?_ ?_
    · refine pt_step rfl (by rfl) (fun K hK => ?_)
      go_simp
      refine hK.out _ _ (But.refl _ _) ?_
      clear hK K
      try simp only [Act.put, List.getElem_toArray, List.getElem_cons_zero, List.getElem_cons_succ, List.setIfInBounds_toArray, List.set_cons_zero, List.set_cons_succ]
      refine pt_q (v := ?_) rfl (by rfl) ?_ ?_
      rotate_left
      · intro w' hBw'
        first | (go_simp; done) | (go_simp; with_reducible rfl)
      try simp only [Act.put, List.getElem_toArray, List.getElem_cons_zero, List.getElem_cons_succ, List.setIfInBounds_toArray, List.set_cons_zero, List.set_cons_succ]
      refine pt_f ?_ ?_
      · refine pt_step rfl (by rfl) (fun K hK => ?_)
        go_simp
        have V4 := V.up (below_alloc Wd (.cells (ctC c).toArray 27))
        refine hK.out _ _ (But.alloc _ _) ?_
        clear hK K
        try simp only [Act.put, List.getElem_toArray, List.getElem_cons_zero, List.getElem_cons_succ, List.setIfInBounds_toArray, List.set_cons_zero, List.set_cons_succ]
        refine pt_c ?_
        refine pt_step rfl (by rfl) (fun K hK => ?_)
        go_simp
        refine hK.out _ _ (But.refl _ _) ?_
        clear hK K
        try simp only [Act.put, List.getElem_toArray, List.getElem_cons_zero, List.getElem_cons_succ, List.setIfInBounds_toArray, List.set_cons_zero, List.set_cons_succ]
        refine pt_q (v := ?_) rfl (by rfl) ?_ ?_
        rotate_left
        · intro w' hBw'
          first | (go_simp; done) | (go_simp; with_reducible rfl)
        try simp only [Act.put, List.getElem_toArray, List.getElem_cons_zero, List.getElem_cons_succ, List.setIfInBounds_toArray, List.set_cons_zero, List.set_cons_succ]
        refine pt_c ?_
        refine pt_step rfl (by rfl) (fun K hK => ?_)
        go_simp
        refine hK.out _ _ (But.alloc _ _) ?_
        clear hK K
        try simp only [Act.put, List.getElem_toArray, List.getElem_cons_zero, List.getElem_cons_succ, List.setIfInBounds_toArray, List.set_cons_zero, List.set_cons_succ]
        refine pt_c ?_
        refine pt_step rfl (by rfl) (fun K hK => ?_)
        go_simp
        have hS1 := slOne Wd Wd.heap.size rfl 27 c
        have hb5 := below_alloc (Wd.alloc (.cells (ctC c).toArray 27)) (.cells #[.slice a1 i i, .slice (some ⟨Wd.heap.size, 0, none⟩) 1 1, .slice a2 (L.length - i) (cvp - i)] 65)
        have hb4 := below_alloc Wd (.cells (ctC c).toArray 27)
        have hSL : SlL ((Wd.alloc (.cells (ctC c).toArray 27)).alloc (.cells #[.slice a1 i i, .slice (some ⟨Wd.heap.size, 0, none⟩) 1 1, .slice a2 (L.length - i) (cvp - i)] 65)) (.slice (some ⟨Wd.heap.size + 1, 0, none⟩) 3 3) 3 [.slice a1 i i, .slice (some ⟨Wd.heap.size, 0, none⟩) 1 1, .slice a2 (L.length - i) (cvp - i)] [L.take i, [c], L.drop i] := by
          refine ⟨by have := slLists3 (Wd.alloc (.cells (ctC c).toArray 27)) _ rfl 65 (.slice a1 i i) (.slice (some ⟨Wd.heap.size, 0, none⟩) 1 1) (.slice a2 (L.length - i) (cvp - i)); rwa [World.size_alloc] at this, rfl, fun k u l h1 h2 => ?_⟩
          match k with
          | 0 => simp at h1 h2; subst h1; subst h2; rw [List.length_take, Nat.min_eq_left hiL]; exact (sl1.up hb4).up hb5
          | 1 => simp at h1 h2; subst h1; subst h2; exact hS1.up hb5
          | 2 => simp at h1 h2; subst h1; subst h2; rw [List.length_drop]; exact (sl2.up hb4).up hb5
          | k + 3 => simp at h1
        have hlen3 : [L.take i, [c], L.drop i].flatten.length = L.length + 1 := by simp; omega
        have hfl3 : [L.take i, [c], L.drop i].flatten = L.take i ++ c :: L.drop i := by simp
        refine (concatL_c _ _ _ 3 _ hSL (by omega) (by rw [hlen3]; omega)).mono ?_
        rw [hlen3, hfl3]
        rintro en w6 ⟨v6, rfl, hown, hb6⟩
        have V6 := (V4.up hb5).up hb6
        have hc6 := V6.plan.var.cell (i := 0) rfl
        have hf6 := V6.plan.var.fz 0
        have hBig : w.heap.size + 1 < (Wd.alloc (.cells (ctC c).toArray 27)).heap.size := by have := V.ct.lt; simp; omega
        obtain ⟨a6, c6, rfl⟩ := own_slice hown
        go_wp2_with fail
        refine hK.out _ _ (But.of_below hb6) ?_
        clear hK K
        try simp only [Act.put, List.getElem_toArray, List.getElem_cons_zero, List.getElem_cons_succ, List.setIfInBounds_toArray, List.set_cons_zero, List.set_cons_succ]
        refine pt_q (v := ?_) rfl (by rfl) ?_ ?_
        rotate_left
        · intro w' hBw'
          first | (go_simp; done) | (go_simp; with_reducible rfl)
        try simp only [Act.put, List.getElem_toArray, List.getElem_cons_zero, List.getElem_cons_succ, List.setIfInBounds_toArray, List.set_cons_zero, List.set_cons_succ]
        refine pt_q (v := ?_) rfl (by rfl) ?_ ?_
        rotate_left
        · intro w' hBw'
          first | (go_simp; done) | (go_simp; with_reducible rfl)
        try simp only [Act.put, List.getElem_toArray, List.getElem_cons_zero, List.getElem_cons_succ, List.setIfInBounds_toArray, List.set_cons_zero, List.set_cons_succ]
        refine pt_c ?_
        refine pt_step rfl (by rfl) (fun K hK => ?_)
        go_simp
        refine hK.out _ _ (But.setCell _ _ _ (.inl rfl)) ?_
        clear hK K
        try simp only [Act.put, List.getElem_toArray, List.getElem_cons_zero, List.getElem_cons_succ, List.setIfInBounds_toArray, List.set_cons_zero, List.set_cons_succ]
        refine pt_done ?_
        go_wp2
        go_ret
        have hbig := V4.below.size
        have hbig2 := hb5.size
        have hkk : ∀ k, (Value.slice a6 (L.length + 1) c6).ownBlock = some k → w.heap.size ≤ k := fun k hk => by have := (own_of_some hown hk).1; omega
        have hkk2 : ∀ k, (Value.slice a6 (L.length + 1) c6).ownBlock = some k → w.heap.size ≤ k ∧ k < w6.heap.size := fun k hk => ⟨hkk k hk, (own_of_some hown hk).2⟩
        have hsB : But (· = B) w6 (w6.setCell ⟨B, 0, none⟩ (.slice a6 (L.length + 1) c6)) := But.setCell _ _ _ (.inl rfl)
        have hins : insF L c = L.take i ++ c :: L.drop i := by unfold insF; rw [← HI.out]
        refine ⟨_, by first | rfl | simp, ⟨V6.plan.var.set 0 _, ?_, .inr fun k hk => by have := hkk k hk; omega⟩, (But.of_below V6.below).trans hsB, .inr fun k hk => ⟨hkk k hk, Nat.lt_of_lt_of_le (hkk2 k hk).2 hsB.size⟩⟩
        rw [hins, show (L.take i ++ c :: L.drop i).length = L.length + 1 by simp; omega]
        exact (Sl.of_own hown).but hsB (.inr fun k hk => by have := hkk k hk; omega)
      · refine pt_step rfl (by rfl) (fun K hK => ?_)
        go_simp
        refine hK.out _ _ (But.refl _ _) ?_
        clear hK K
        try simp only [Act.put, List.getElem_toArray, List.getElem_cons_zero, List.getElem_cons_succ, List.setIfInBounds_toArray, List.set_cons_zero, List.set_cons_succ]
        refine pt_q (v := ?_) rfl (by rfl) ?_ ?_
        rotate_left
        · intro w' hBw'
          first | (go_simp; done) | (go_simp; with_reducible rfl)
        try simp only [Act.put, List.getElem_toArray, List.getElem_cons_zero, List.getElem_cons_succ, List.setIfInBounds_toArray, List.set_cons_zero, List.set_cons_succ]
        refine pt_c ?_
        refine pt_step rfl (by rfl) (fun K hK => ?_)
        go_simp
        have V4 := V.up (below_alloc Wd (.cells (ctC c).toArray 27))
        refine hK.out _ _ (But.alloc _ _) ?_
        clear hK K
        try simp only [Act.put, List.getElem_toArray, List.getElem_cons_zero, List.getElem_cons_succ, List.setIfInBounds_toArray, List.set_cons_zero, List.set_cons_succ]
        refine pt_c ?_
        refine pt_step rfl (by rfl) (fun K hK => ?_)
        go_simp
        refine hK.out _ _ (But.alloc _ _) ?_
        clear hK K
        try simp only [Act.put, List.getElem_toArray, List.getElem_cons_zero, List.getElem_cons_succ, List.setIfInBounds_toArray, List.set_cons_zero, List.set_cons_succ]
        refine pt_c ?_
        refine pt_step rfl (by rfl) (fun K hK => ?_)
        go_simp
        have hS1 := slOne Wd Wd.heap.size rfl 27 c
        have hb5 := below_alloc (Wd.alloc (.cells (ctC c).toArray 27)) (.cells #[.slice a1 i i, .slice (some ⟨Wd.heap.size, 0, none⟩) 1 1, .slice a2 (L.length - i) (cvp - i)] 65)
        have hb4 := below_alloc Wd (.cells (ctC c).toArray 27)
        have hSL : SlL ((Wd.alloc (.cells (ctC c).toArray 27)).alloc (.cells #[.slice a1 i i, .slice (some ⟨Wd.heap.size, 0, none⟩) 1 1, .slice a2 (L.length - i) (cvp - i)] 65)) (.slice (some ⟨Wd.heap.size + 1, 0, none⟩) 3 3) 3 [.slice a1 i i, .slice (some ⟨Wd.heap.size, 0, none⟩) 1 1, .slice a2 (L.length - i) (cvp - i)] [L.take i, [c], L.drop i] := by
          refine ⟨by have := slLists3 (Wd.alloc (.cells (ctC c).toArray 27)) _ rfl 65 (.slice a1 i i) (.slice (some ⟨Wd.heap.size, 0, none⟩) 1 1) (.slice a2 (L.length - i) (cvp - i)); rwa [World.size_alloc] at this, rfl, fun k u l h1 h2 => ?_⟩
          match k with
          | 0 => simp at h1 h2; subst h1; subst h2; rw [List.length_take, Nat.min_eq_left hiL]; exact (sl1.up hb4).up hb5
          | 1 => simp at h1 h2; subst h1; subst h2; exact hS1.up hb5
          | 2 => simp at h1 h2; subst h1; subst h2; rw [List.length_drop]; exact (sl2.up hb4).up hb5
          | k + 3 => simp at h1
        have hlen3 : [L.take i, [c], L.drop i].flatten.length = L.length + 1 := by simp; omega
        have hfl3 : [L.take i, [c], L.drop i].flatten = L.take i ++ c :: L.drop i := by simp
        refine (concatL_c _ _ _ 3 _ hSL (by omega) (by rw [hlen3]; omega)).mono ?_
        rw [hlen3, hfl3]
        rintro en w6 ⟨v6, rfl, hown, hb6⟩
        have V6 := (V4.up hb5).up hb6
        have hc6 := V6.plan.var.cell (i := 0) rfl
        have hf6 := V6.plan.var.fz 0
        have hBig : w.heap.size + 1 < (Wd.alloc (.cells (ctC c).toArray 27)).heap.size := by have := V.ct.lt; simp; omega
        obtain ⟨a6, c6, rfl⟩ := own_slice hown
        go_wp2_with fail
        refine hK.out _ _ (But.of_below hb6) ?_
        clear hK K
        try simp only [Act.put, List.getElem_toArray, List.getElem_cons_zero, List.getElem_cons_succ, List.setIfInBounds_toArray, List.set_cons_zero, List.set_cons_succ]
        refine pt_q (v := ?_) rfl (by rfl) ?_ ?_
        rotate_left
        · intro w' hBw'
          first | (go_simp; done) | (go_simp; with_reducible rfl)
        try simp only [Act.put, List.getElem_toArray, List.getElem_cons_zero, List.getElem_cons_succ, List.setIfInBounds_toArray, List.set_cons_zero, List.set_cons_succ]
        refine pt_q (v := ?_) rfl (by rfl) ?_ ?_
        rotate_left
        · intro w' hBw'
          first | (go_simp; done) | (go_simp; with_reducible rfl)
        try simp only [Act.put, List.getElem_toArray, List.getElem_cons_zero, List.getElem_cons_succ, List.setIfInBounds_toArray, List.set_cons_zero, List.set_cons_succ]
        refine pt_c ?_
        refine pt_step rfl (by rfl) (fun K hK => ?_)
        go_simp
        refine hK.out _ _ (But.setCell _ _ _ (.inl rfl)) ?_
        clear hK K
        try simp only [Act.put, List.getElem_toArray, List.getElem_cons_zero, List.getElem_cons_succ, List.setIfInBounds_toArray, List.set_cons_zero, List.set_cons_succ]
        refine pt_done ?_
        go_wp2
        go_ret
        have hbig := V4.below.size
        have hbig2 := hb5.size
        have hkk : ∀ k, (Value.slice a6 (L.length + 1) c6).ownBlock = some k → w.heap.size ≤ k := fun k hk => by have := (own_of_some hown hk).1; omega
        have hkk2 : ∀ k, (Value.slice a6 (L.length + 1) c6).ownBlock = some k → w.heap.size ≤ k ∧ k < w6.heap.size := fun k hk => ⟨hkk k hk, (own_of_some hown hk).2⟩
        have hsB : But (· = B) w6 (w6.setCell ⟨B, 0, none⟩ (.slice a6 (L.length + 1) c6)) := But.setCell _ _ _ (.inl rfl)
        have hins : insF L c = L.take i ++ c :: L.drop i := by unfold insF; rw [← HI.out]
        refine ⟨_, by first | rfl | simp, ⟨V6.plan.var.set 0 _, ?_, .inr fun k hk => by have := hkk k hk; omega⟩, (But.of_below V6.below).trans hsB, .inr fun k hk => ⟨hkk k hk, Nat.lt_of_lt_of_le (hkk2 k hk).2 hsB.size⟩⟩
        rw [hins, show (L.take i ++ c :: L.drop i).length = L.length + 1 by simp; omega]
        exact (Sl.of_own hown).but hsB (.inr fun k hk => by have := hkk k hk; omega)
    · refine pt_step rfl (by rfl) (fun K hK => ?_)
      go_simp
      have V4 := V.up (below_alloc Wd (.cells (ctC c).toArray 27))
      refine hK.out _ _ (But.alloc _ _) ?_
      clear hK K
      try simp only [Act.put, List.getElem_toArray, List.getElem_cons_zero, List.getElem_cons_succ, List.setIfInBounds_toArray, List.set_cons_zero, List.set_cons_succ]
      refine pt_f ?_ ?_
      · refine pt_step rfl (by rfl) (fun K hK => ?_)
        go_simp
        refine hK.out _ _ (But.refl _ _) ?_
        clear hK K
        try simp only [Act.put, List.getElem_toArray, List.getElem_cons_zero, List.getElem_cons_succ, List.setIfInBounds_toArray, List.set_cons_zero, List.set_cons_succ]
        refine pt_q (v := ?_) rfl (by rfl) ?_ ?_
        rotate_left
        · intro w' hBw'
          first | (go_simp; done) | (go_simp; with_reducible rfl)
        try simp only [Act.put, List.getElem_toArray, List.getElem_cons_zero, List.getElem_cons_succ, List.setIfInBounds_toArray, List.set_cons_zero, List.set_cons_succ]
        refine pt_c ?_
        refine pt_step rfl (by rfl) (fun K hK => ?_)
        go_simp
        refine hK.out _ _ (But.refl _ _) ?_
        clear hK K
        try simp only [Act.put, List.getElem_toArray, List.getElem_cons_zero, List.getElem_cons_succ, List.setIfInBounds_toArray, List.set_cons_zero, List.set_cons_succ]
        refine pt_q (v := ?_) rfl (by rfl) ?_ ?_
        rotate_left
        · intro w' hBw'
          first | (go_simp; done) | (go_simp; with_reducible rfl)
        try simp only [Act.put, List.getElem_toArray, List.getElem_cons_zero, List.getElem_cons_succ, List.setIfInBounds_toArray, List.set_cons_zero, List.set_cons_succ]
        refine pt_c ?_
        refine pt_step rfl (by rfl) (fun K hK => ?_)
        go_simp
        refine hK.out _ _ (But.alloc _ _) ?_
        clear hK K
        try simp only [Act.put, List.getElem_toArray, List.getElem_cons_zero, List.getElem_cons_succ, List.setIfInBounds_toArray, List.set_cons_zero, List.set_cons_succ]
        refine pt_c ?_
        refine pt_step rfl (by rfl) (fun K hK => ?_)
        go_simp
        have hS1 := slOne Wd Wd.heap.size rfl 27 c
        have hb5 := below_alloc (Wd.alloc (.cells (ctC c).toArray 27)) (.cells #[.slice a1 i i, .slice (some ⟨Wd.heap.size, 0, none⟩) 1 1, .slice a2 (L.length - i) (cvp - i)] 65)
        have hb4 := below_alloc Wd (.cells (ctC c).toArray 27)
        have hSL : SlL ((Wd.alloc (.cells (ctC c).toArray 27)).alloc (.cells #[.slice a1 i i, .slice (some ⟨Wd.heap.size, 0, none⟩) 1 1, .slice a2 (L.length - i) (cvp - i)] 65)) (.slice (some ⟨Wd.heap.size + 1, 0, none⟩) 3 3) 3 [.slice a1 i i, .slice (some ⟨Wd.heap.size, 0, none⟩) 1 1, .slice a2 (L.length - i) (cvp - i)] [L.take i, [c], L.drop i] := by
          refine ⟨by have := slLists3 (Wd.alloc (.cells (ctC c).toArray 27)) _ rfl 65 (.slice a1 i i) (.slice (some ⟨Wd.heap.size, 0, none⟩) 1 1) (.slice a2 (L.length - i) (cvp - i)); rwa [World.size_alloc] at this, rfl, fun k u l h1 h2 => ?_⟩
          match k with
          | 0 => simp at h1 h2; subst h1; subst h2; rw [List.length_take, Nat.min_eq_left hiL]; exact (sl1.up hb4).up hb5
          | 1 => simp at h1 h2; subst h1; subst h2; exact hS1.up hb5
          | 2 => simp at h1 h2; subst h1; subst h2; rw [List.length_drop]; exact (sl2.up hb4).up hb5
          | k + 3 => simp at h1
        have hlen3 : [L.take i, [c], L.drop i].flatten.length = L.length + 1 := by simp; omega
        have hfl3 : [L.take i, [c], L.drop i].flatten = L.take i ++ c :: L.drop i := by simp
        refine (concatL_c _ _ _ 3 _ hSL (by omega) (by rw [hlen3]; omega)).mono ?_
        rw [hlen3, hfl3]
        rintro en w6 ⟨v6, rfl, hown, hb6⟩
        have V6 := (V4.up hb5).up hb6
        have hc6 := V6.plan.var.cell (i := 0) rfl
        have hf6 := V6.plan.var.fz 0
        have hBig : w.heap.size + 1 < (Wd.alloc (.cells (ctC c).toArray 27)).heap.size := by have := V.ct.lt; simp; omega
        obtain ⟨a6, c6, rfl⟩ := own_slice hown
        go_wp2_with fail
        refine hK.out _ _ (But.of_below hb6) ?_
        clear hK K
        try simp only [Act.put, List.getElem_toArray, List.getElem_cons_zero, List.getElem_cons_succ, List.setIfInBounds_toArray, List.set_cons_zero, List.set_cons_succ]
        refine pt_q (v := ?_) rfl (by rfl) ?_ ?_
        rotate_left
        · intro w' hBw'
          first | (go_simp; done) | (go_simp; with_reducible rfl)
        try simp only [Act.put, List.getElem_toArray, List.getElem_cons_zero, List.getElem_cons_succ, List.setIfInBounds_toArray, List.set_cons_zero, List.set_cons_succ]
        refine pt_q (v := ?_) rfl (by rfl) ?_ ?_
        rotate_left
        · intro w' hBw'
          first | (go_simp; done) | (go_simp; with_reducible rfl)
        try simp only [Act.put, List.getElem_toArray, List.getElem_cons_zero, List.getElem_cons_succ, List.setIfInBounds_toArray, List.set_cons_zero, List.set_cons_succ]
        refine pt_c ?_
        refine pt_step rfl (by rfl) (fun K hK => ?_)
        go_simp
        refine hK.out _ _ (But.setCell _ _ _ (.inl rfl)) ?_
        clear hK K
        try simp only [Act.put, List.getElem_toArray, List.getElem_cons_zero, List.getElem_cons_succ, List.setIfInBounds_toArray, List.set_cons_zero, List.set_cons_succ]
        refine pt_done ?_
        go_wp2
        go_ret
        have hbig := V4.below.size
        have hbig2 := hb5.size
        have hkk : ∀ k, (Value.slice a6 (L.length + 1) c6).ownBlock = some k → w.heap.size ≤ k := fun k hk => by have := (own_of_some hown hk).1; omega
        have hkk2 : ∀ k, (Value.slice a6 (L.length + 1) c6).ownBlock = some k → w.heap.size ≤ k ∧ k < w6.heap.size := fun k hk => ⟨hkk k hk, (own_of_some hown hk).2⟩
        have hsB : But (· = B) w6 (w6.setCell ⟨B, 0, none⟩ (.slice a6 (L.length + 1) c6)) := But.setCell _ _ _ (.inl rfl)
        have hins : insF L c = L.take i ++ c :: L.drop i := by unfold insF; rw [← HI.out]
        refine ⟨_, by first | rfl | simp, ⟨V6.plan.var.set 0 _, ?_, .inr fun k hk => by have := hkk k hk; omega⟩, (But.of_below V6.below).trans hsB, .inr fun k hk => ⟨hkk k hk, Nat.lt_of_lt_of_le (hkk2 k hk).2 hsB.size⟩⟩
        rw [hins, show (L.take i ++ c :: L.drop i).length = L.length + 1 by simp; omega]
        exact (Sl.of_own hown).but hsB (.inr fun k hk => by have := hkk k hk; omega)
      · refine pt_step rfl (by rfl) (fun K hK => ?_)
        go_simp
        refine hK.out _ _ (But.refl _ _) ?_
        clear hK K
        try simp only [Act.put, List.getElem_toArray, List.getElem_cons_zero, List.getElem_cons_succ, List.setIfInBounds_toArray, List.set_cons_zero, List.set_cons_succ]
        refine pt_q (v := ?_) rfl (by rfl) ?_ ?_
        rotate_left
        · intro w' hBw'
          first | (go_simp; done) | (go_simp; with_reducible rfl)
        try simp only [Act.put, List.getElem_toArray, List.getElem_cons_zero, List.getElem_cons_succ, List.setIfInBounds_toArray, List.set_cons_zero, List.set_cons_succ]
        refine pt_c ?_
        refine pt_step rfl (by rfl) (fun K hK => ?_)
        go_simp
        refine hK.out _ _ (But.refl _ _) ?_
        clear hK K
        try simp only [Act.put, List.getElem_toArray, List.getElem_cons_zero, List.getElem_cons_succ, List.setIfInBounds_toArray, List.set_cons_zero, List.set_cons_succ]
        refine pt_q (v := ?_) rfl (by rfl) ?_ ?_
        rotate_left
        · intro w' hBw'
          first | (go_simp; done) | (go_simp; with_reducible rfl)
        try simp only [Act.put, List.getElem_toArray, List.getElem_cons_zero, List.getElem_cons_succ, List.setIfInBounds_toArray, List.set_cons_zero, List.set_cons_succ]
        refine pt_c ?_
        refine pt_step rfl (by rfl) (fun K hK => ?_)
        go_simp
        refine hK.out _ _ (But.alloc _ _) ?_
        clear hK K
        try simp only [Act.put, List.getElem_toArray, List.getElem_cons_zero, List.getElem_cons_succ, List.setIfInBounds_toArray, List.set_cons_zero, List.set_cons_succ]
        refine pt_c ?_
        refine pt_step rfl (by rfl) (fun K hK => ?_)
        go_simp
        have hS1 := slOne Wd Wd.heap.size rfl 27 c
        have hb5 := below_alloc (Wd.alloc (.cells (ctC c).toArray 27)) (.cells #[.slice a1 i i, .slice (some ⟨Wd.heap.size, 0, none⟩) 1 1, .slice a2 (L.length - i) (cvp - i)] 65)
        have hb4 := below_alloc Wd (.cells (ctC c).toArray 27)
        have hSL : SlL ((Wd.alloc (.cells (ctC c).toArray 27)).alloc (.cells #[.slice a1 i i, .slice (some ⟨Wd.heap.size, 0, none⟩) 1 1, .slice a2 (L.length - i) (cvp - i)] 65)) (.slice (some ⟨Wd.heap.size + 1, 0, none⟩) 3 3) 3 [.slice a1 i i, .slice (some ⟨Wd.heap.size, 0, none⟩) 1 1, .slice a2 (L.length - i) (cvp - i)] [L.take i, [c], L.drop i] := by
          refine ⟨by have := slLists3 (Wd.alloc (.cells (ctC c).toArray 27)) _ rfl 65 (.slice a1 i i) (.slice (some ⟨Wd.heap.size, 0, none⟩) 1 1) (.slice a2 (L.length - i) (cvp - i)); rwa [World.size_alloc] at this, rfl, fun k u l h1 h2 => ?_⟩
          match k with
          | 0 => simp at h1 h2; subst h1; subst h2; rw [List.length_take, Nat.min_eq_left hiL]; exact (sl1.up hb4).up hb5
          | 1 => simp at h1 h2; subst h1; subst h2; exact hS1.up hb5
          | 2 => simp at h1 h2; subst h1; subst h2; rw [List.length_drop]; exact (sl2.up hb4).up hb5
          | k + 3 => simp at h1
        have hlen3 : [L.take i, [c], L.drop i].flatten.length = L.length + 1 := by simp; omega
        have hfl3 : [L.take i, [c], L.drop i].flatten = L.take i ++ c :: L.drop i := by simp
        refine (concatL_c _ _ _ 3 _ hSL (by omega) (by rw [hlen3]; omega)).mono ?_
        rw [hlen3, hfl3]
        rintro en w6 ⟨v6, rfl, hown, hb6⟩
        have V6 := (V4.up hb5).up hb6
        have hc6 := V6.plan.var.cell (i := 0) rfl
        have hf6 := V6.plan.var.fz 0
        have hBig : w.heap.size + 1 < (Wd.alloc (.cells (ctC c).toArray 27)).heap.size := by have := V.ct.lt; simp; omega
        obtain ⟨a6, c6, rfl⟩ := own_slice hown
        go_wp2_with fail
        refine hK.out _ _ (But.of_below hb6) ?_
        clear hK K
        try simp only [Act.put, List.getElem_toArray, List.getElem_cons_zero, List.getElem_cons_succ, List.setIfInBounds_toArray, List.set_cons_zero, List.set_cons_succ]
        refine pt_q (v := ?_) rfl (by rfl) ?_ ?_
        rotate_left
        · intro w' hBw'
          first | (go_simp; done) | (go_simp; with_reducible rfl)
        try simp only [Act.put, List.getElem_toArray, List.getElem_cons_zero, List.getElem_cons_succ, List.setIfInBounds_toArray, List.set_cons_zero, List.set_cons_succ]
        refine pt_q (v := ?_) rfl (by rfl) ?_ ?_
        rotate_left
        · intro w' hBw'
          first | (go_simp; done) | (go_simp; with_reducible rfl)
        try simp only [Act.put, List.getElem_toArray, List.getElem_cons_zero, List.getElem_cons_succ, List.setIfInBounds_toArray, List.set_cons_zero, List.set_cons_succ]
        refine pt_c ?_
        refine pt_step rfl (by rfl) (fun K hK => ?_)
        go_simp
        refine hK.out _ _ (But.setCell _ _ _ (.inl rfl)) ?_
        clear hK K
        try simp only [Act.put, List.getElem_toArray, List.getElem_cons_zero, List.getElem_cons_succ, List.setIfInBounds_toArray, List.set_cons_zero, List.set_cons_succ]
        refine pt_done ?_
        go_wp2
        go_ret
        have hbig := V4.below.size
        have hbig2 := hb5.size
        have hkk : ∀ k, (Value.slice a6 (L.length + 1) c6).ownBlock = some k → w.heap.size ≤ k := fun k hk => by have := (own_of_some hown hk).1; omega
        have hkk2 : ∀ k, (Value.slice a6 (L.length + 1) c6).ownBlock = some k → w.heap.size ≤ k ∧ k < w6.heap.size := fun k hk => ⟨hkk k hk, (own_of_some hown hk).2⟩
        have hsB : But (· = B) w6 (w6.setCell ⟨B, 0, none⟩ (.slice a6 (L.length + 1) c6)) := But.setCell _ _ _ (.inl rfl)
        have hins : insF L c = L.take i ++ c :: L.drop i := by unfold insF; rw [← HI.out]
        refine ⟨_, by first | rfl | simp, ⟨V6.plan.var.set 0 _, ?_, .inr fun k hk => by have := hkk k hk; omega⟩, (But.of_below V6.below).trans hsB, .inr fun k hk => ⟨hkk k hk, Nat.lt_of_lt_of_le (hkk2 k hk).2 hsB.size⟩⟩
        rw [hins, show (L.take i ++ c :: L.drop i).length = L.length + 1 by simp; omega]
        exact (Sl.of_own hown).but hsB (.inr fun k hk => by have := hkk k hk; omega)
    · refine pt_step rfl (by rfl) (fun K hK => ?_)
      go_simp
      refine hK.out _ _ (But.refl _ _) ?_
      clear hK K
      try simp only [Act.put, List.getElem_toArray, List.getElem_cons_zero, List.getElem_cons_succ, List.setIfInBounds_toArray, List.set_cons_zero, List.set_cons_succ]
      refine pt_q (v := ?_) rfl (by rfl) ?_ ?_
      rotate_left
      · intro w' hBw'
        first | (go_simp; done) | (go_simp; with_reducible rfl)
      try simp only [Act.put, List.getElem_toArray, List.getElem_cons_zero, List.getElem_cons_succ, List.setIfInBounds_toArray, List.set_cons_zero, List.set_cons_succ]
      refine pt_f ?_ ?_
      · refine pt_step rfl (by rfl) (fun K hK => ?_)
        go_simp
        refine hK.out _ _ (But.refl _ _) ?_
        clear hK K
        try simp only [Act.put, List.getElem_toArray, List.getElem_cons_zero, List.getElem_cons_succ, List.setIfInBounds_toArray, List.set_cons_zero, List.set_cons_succ]
        refine pt_q (v := ?_) rfl (by rfl) ?_ ?_
        rotate_left
        · intro w' hBw'
          first | (go_simp; done) | (go_simp; with_reducible rfl)
        try simp only [Act.put, List.getElem_toArray, List.getElem_cons_zero, List.getElem_cons_succ, List.setIfInBounds_toArray, List.set_cons_zero, List.set_cons_succ]
        refine pt_c ?_
        refine pt_step rfl (by rfl) (fun K hK => ?_)
        go_simp
        have V4 := V.up (below_alloc Wd (.cells (ctC c).toArray 27))
        refine hK.out _ _ (But.alloc _ _) ?_
        clear hK K
        try simp only [Act.put, List.getElem_toArray, List.getElem_cons_zero, List.getElem_cons_succ, List.setIfInBounds_toArray, List.set_cons_zero, List.set_cons_succ]
        refine pt_c ?_
        refine pt_step rfl (by rfl) (fun K hK => ?_)
        go_simp
        refine hK.out _ _ (But.alloc _ _) ?_
        clear hK K
        try simp only [Act.put, List.getElem_toArray, List.getElem_cons_zero, List.getElem_cons_succ, List.setIfInBounds_toArray, List.set_cons_zero, List.set_cons_succ]
        refine pt_c ?_
        refine pt_step rfl (by rfl) (fun K hK => ?_)
        go_simp
        have hS1 := slOne Wd Wd.heap.size rfl 27 c
        have hb5 := below_alloc (Wd.alloc (.cells (ctC c).toArray 27)) (.cells #[.slice a1 i i, .slice (some ⟨Wd.heap.size, 0, none⟩) 1 1, .slice a2 (L.length - i) (cvp - i)] 65)
        have hb4 := below_alloc Wd (.cells (ctC c).toArray 27)
        have hSL : SlL ((Wd.alloc (.cells (ctC c).toArray 27)).alloc (.cells #[.slice a1 i i, .slice (some ⟨Wd.heap.size, 0, none⟩) 1 1, .slice a2 (L.length - i) (cvp - i)] 65)) (.slice (some ⟨Wd.heap.size + 1, 0, none⟩) 3 3) 3 [.slice a1 i i, .slice (some ⟨Wd.heap.size, 0, none⟩) 1 1, .slice a2 (L.length - i) (cvp - i)] [L.take i, [c], L.drop i] := by
          refine ⟨by have := slLists3 (Wd.alloc (.cells (ctC c).toArray 27)) _ rfl 65 (.slice a1 i i) (.slice (some ⟨Wd.heap.size, 0, none⟩) 1 1) (.slice a2 (L.length - i) (cvp - i)); rwa [World.size_alloc] at this, rfl, fun k u l h1 h2 => ?_⟩
          match k with
          | 0 => simp at h1 h2; subst h1; subst h2; rw [List.length_take, Nat.min_eq_left hiL]; exact (sl1.up hb4).up hb5
          | 1 => simp at h1 h2; subst h1; subst h2; exact hS1.up hb5
          | 2 => simp at h1 h2; subst h1; subst h2; rw [List.length_drop]; exact (sl2.up hb4).up hb5
          | k + 3 => simp at h1
        have hlen3 : [L.take i, [c], L.drop i].flatten.length = L.length + 1 := by simp; omega
        have hfl3 : [L.take i, [c], L.drop i].flatten = L.take i ++ c :: L.drop i := by simp
        refine (concatL_c _ _ _ 3 _ hSL (by omega) (by rw [hlen3]; omega)).mono ?_
        rw [hlen3, hfl3]
        rintro en w6 ⟨v6, rfl, hown, hb6⟩
        have V6 := (V4.up hb5).up hb6
        have hc6 := V6.plan.var.cell (i := 0) rfl
        have hf6 := V6.plan.var.fz 0
        have hBig : w.heap.size + 1 < (Wd.alloc (.cells (ctC c).toArray 27)).heap.size := by have := V.ct.lt; simp; omega
        obtain ⟨a6, c6, rfl⟩ := own_slice hown
        go_wp2_with fail
        refine hK.out _ _ (But.of_below hb6) ?_
        clear hK K
        try simp only [Act.put, List.getElem_toArray, List.getElem_cons_zero, List.getElem_cons_succ, List.setIfInBounds_toArray, List.set_cons_zero, List.set_cons_succ]
        refine pt_q (v := ?_) rfl (by rfl) ?_ ?_
        rotate_left
        · intro w' hBw'
          first | (go_simp; done) | (go_simp; with_reducible rfl)
        try simp only [Act.put, List.getElem_toArray, List.getElem_cons_zero, List.getElem_cons_succ, List.setIfInBounds_toArray, List.set_cons_zero, List.set_cons_succ]
        refine pt_q (v := ?_) rfl (by rfl) ?_ ?_
        rotate_left
        · intro w' hBw'
          first | (go_simp; done) | (go_simp; with_reducible rfl)
        try simp only [Act.put, List.getElem_toArray, List.getElem_cons_zero, List.getElem_cons_succ, List.setIfInBounds_toArray, List.set_cons_zero, List.set_cons_succ]
        refine pt_c ?_
        refine pt_step rfl (by rfl) (fun K hK => ?_)
        go_simp
        refine hK.out _ _ (But.setCell _ _ _ (.inl rfl)) ?_
        clear hK K
        try simp only [Act.put, List.getElem_toArray, List.getElem_cons_zero, List.getElem_cons_succ, List.setIfInBounds_toArray, List.set_cons_zero, List.set_cons_succ]
        refine pt_done ?_
        go_wp2
        go_ret
        have hbig := V4.below.size
        have hbig2 := hb5.size
        have hkk : ∀ k, (Value.slice a6 (L.length + 1) c6).ownBlock = some k → w.heap.size ≤ k := fun k hk => by have := (own_of_some hown hk).1; omega
        have hkk2 : ∀ k, (Value.slice a6 (L.length + 1) c6).ownBlock = some k → w.heap.size ≤ k ∧ k < w6.heap.size := fun k hk => ⟨hkk k hk, (own_of_some hown hk).2⟩
        have hsB : But (· = B) w6 (w6.setCell ⟨B, 0, none⟩ (.slice a6 (L.length + 1) c6)) := But.setCell _ _ _ (.inl rfl)
        have hins : insF L c = L.take i ++ c :: L.drop i := by unfold insF; rw [← HI.out]
        refine ⟨_, by first | rfl | simp, ⟨V6.plan.var.set 0 _, ?_, .inr fun k hk => by have := hkk k hk; omega⟩, (But.of_below V6.below).trans hsB, .inr fun k hk => ⟨hkk k hk, Nat.lt_of_lt_of_le (hkk2 k hk).2 hsB.size⟩⟩
        rw [hins, show (L.take i ++ c :: L.drop i).length = L.length + 1 by simp; omega]
        exact (Sl.of_own hown).but hsB (.inr fun k hk => by have := hkk k hk; omega)
      · refine pt_step rfl (by rfl) (fun K hK => ?_)
        go_simp
        have V4 := V.up (below_alloc Wd (.cells (ctC c).toArray 27))
        refine hK.out _ _ (But.alloc _ _) ?_
        clear hK K
        try simp only [Act.put, List.getElem_toArray, List.getElem_cons_zero, List.getElem_cons_succ, List.setIfInBounds_toArray, List.set_cons_zero, List.set_cons_succ]
        refine pt_c ?_
        refine pt_step rfl (by rfl) (fun K hK => ?_)
        go_simp
        refine hK.out _ _ (But.refl _ _) ?_
        clear hK K
        try simp only [Act.put, List.getElem_toArray, List.getElem_cons_zero, List.getElem_cons_succ, List.setIfInBounds_toArray, List.set_cons_zero, List.set_cons_succ]
        refine pt_q (v := ?_) rfl (by rfl) ?_ ?_
        rotate_left
        · intro w' hBw'
          first | (go_simp; done) | (go_simp; with_reducible rfl)
        try simp only [Act.put, List.getElem_toArray, List.getElem_cons_zero, List.getElem_cons_succ, List.setIfInBounds_toArray, List.set_cons_zero, List.set_cons_succ]
        refine pt_c ?_
        refine pt_step rfl (by rfl) (fun K hK => ?_)
        go_simp
        refine hK.out _ _ (But.alloc _ _) ?_
        clear hK K
        try simp only [Act.put, List.getElem_toArray, List.getElem_cons_zero, List.getElem_cons_succ, List.setIfInBounds_toArray, List.set_cons_zero, List.set_cons_succ]
        refine pt_c ?_
        refine pt_step rfl (by rfl) (fun K hK => ?_)
        go_simp
        have hS1 := slOne Wd Wd.heap.size rfl 27 c
        have hb5 := below_alloc (Wd.alloc (.cells (ctC c).toArray 27)) (.cells #[.slice a1 i i, .slice (some ⟨Wd.heap.size, 0, none⟩) 1 1, .slice a2 (L.length - i) (cvp - i)] 65)
        have hb4 := below_alloc Wd (.cells (ctC c).toArray 27)
        have hSL : SlL ((Wd.alloc (.cells (ctC c).toArray 27)).alloc (.cells #[.slice a1 i i, .slice (some ⟨Wd.heap.size, 0, none⟩) 1 1, .slice a2 (L.length - i) (cvp - i)] 65)) (.slice (some ⟨Wd.heap.size + 1, 0, none⟩) 3 3) 3 [.slice a1 i i, .slice (some ⟨Wd.heap.size, 0, none⟩) 1 1, .slice a2 (L.length - i) (cvp - i)] [L.take i, [c], L.drop i] := by
          refine ⟨by have := slLists3 (Wd.alloc (.cells (ctC c).toArray 27)) _ rfl 65 (.slice a1 i i) (.slice (some ⟨Wd.heap.size, 0, none⟩) 1 1) (.slice a2 (L.length - i) (cvp - i)); rwa [World.size_alloc] at this, rfl, fun k u l h1 h2 => ?_⟩
          match k with
          | 0 => simp at h1 h2; subst h1; subst h2; rw [List.length_take, Nat.min_eq_left hiL]; exact (sl1.up hb4).up hb5
          | 1 => simp at h1 h2; subst h1; subst h2; exact hS1.up hb5
          | 2 => simp at h1 h2; subst h1; subst h2; rw [List.length_drop]; exact (sl2.up hb4).up hb5
          | k + 3 => simp at h1
        have hlen3 : [L.take i, [c], L.drop i].flatten.length = L.length + 1 := by simp; omega
        have hfl3 : [L.take i, [c], L.drop i].flatten = L.take i ++ c :: L.drop i := by simp
        refine (concatL_c _ _ _ 3 _ hSL (by omega) (by rw [hlen3]; omega)).mono ?_
        rw [hlen3, hfl3]
        rintro en w6 ⟨v6, rfl, hown, hb6⟩
        have V6 := (V4.up hb5).up hb6
        have hc6 := V6.plan.var.cell (i := 0) rfl
        have hf6 := V6.plan.var.fz 0
        have hBig : w.heap.size + 1 < (Wd.alloc (.cells (ctC c).toArray 27)).heap.size := by have := V.ct.lt; simp; omega
        obtain ⟨a6, c6, rfl⟩ := own_slice hown
        go_wp2_with fail
        refine hK.out _ _ (But.of_below hb6) ?_
        clear hK K
        try simp only [Act.put, List.getElem_toArray, List.getElem_cons_zero, List.getElem_cons_succ, List.setIfInBounds_toArray, List.set_cons_zero, List.set_cons_succ]
        refine pt_q (v := ?_) rfl (by rfl) ?_ ?_
        rotate_left
        · intro w' hBw'
          first | (go_simp; done) | (go_simp; with_reducible rfl)
        try simp only [Act.put, List.getElem_toArray, List.getElem_cons_zero, List.getElem_cons_succ, List.setIfInBounds_toArray, List.set_cons_zero, List.set_cons_succ]
        refine pt_q (v := ?_) rfl (by rfl) ?_ ?_
        rotate_left
        · intro w' hBw'
          first | (go_simp; done) | (go_simp; with_reducible rfl)
        try simp only [Act.put, List.getElem_toArray, List.getElem_cons_zero, List.getElem_cons_succ, List.setIfInBounds_toArray, List.set_cons_zero, List.set_cons_succ]
        refine pt_c ?_
        refine pt_step rfl (by rfl) (fun K hK => ?_)
        go_simp
        refine hK.out _ _ (But.setCell _ _ _ (.inl rfl)) ?_
        clear hK K
        try simp only [Act.put, List.getElem_toArray, List.getElem_cons_zero, List.getElem_cons_succ, List.setIfInBounds_toArray, List.set_cons_zero, List.set_cons_succ]
        refine pt_done ?_
        go_wp2
        go_ret
        have hbig := V4.below.size
        have hbig2 := hb5.size
        have hkk : ∀ k, (Value.slice a6 (L.length + 1) c6).ownBlock = some k → w.heap.size ≤ k := fun k hk => by have := (own_of_some hown hk).1; omega
        have hkk2 : ∀ k, (Value.slice a6 (L.length + 1) c6).ownBlock = some k → w.heap.size ≤ k ∧ k < w6.heap.size := fun k hk => ⟨hkk k hk, (own_of_some hown hk).2⟩
        have hsB : But (· = B) w6 (w6.setCell ⟨B, 0, none⟩ (.slice a6 (L.length + 1) c6)) := But.setCell _ _ _ (.inl rfl)
        have hins : insF L c = L.take i ++ c :: L.drop i := by unfold insF; rw [← HI.out]
        refine ⟨_, by first | rfl | simp, ⟨V6.plan.var.set 0 _, ?_, .inr fun k hk => by have := hkk k hk; omega⟩, (But.of_below V6.below).trans hsB, .inr fun k hk => ⟨hkk k hk, Nat.lt_of_lt_of_le (hkk2 k hk).2 hsB.size⟩⟩
        rw [hins, show (L.take i ++ c :: L.drop i).length = L.length + 1 by simp; omega]
        exact (Sl.of_own hown).but hsB (.inr fun k hk => by have := hkk k hk; omega)
  · have hF : (Vol.addF L c).2 = L := by
      have := HE.out
      unfold Vol.addF at this ⊢
      cases h1 : okB c <;> cases h2 : clashB L c <;> by_cases h3 : 256 ≤ L.length <;> simp [h1, h2, h3] at this ⊢
      omega
    rw [hF]
    have hne : (E == 0) = false := by rw [beq_eq_false_iff_ne]; exact he0
    clear hF HE
    go_enter Try.func13, Try.ntmps13
    go_wp2_with (go_at_call 29; refine hask.mono ?_; rintro en w4 ⟨rfl, hb⟩; replace HV := Lib.hid (HV.out.up hb); clear hb)
    go_ret
    exact ⟨v, rfl, HV.out.plan, But.of_below HV.out.below, .inl rfl⟩
end Go.Proofs.Ytgbpdchdcbnoaaa
