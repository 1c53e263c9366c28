/-
  The contract of Tell: the walk.
-/
import Derived.Test.YteakpppabgbpeaaMemC
namespace Go.Proofs.Yteakpppabgbpeaa
open Go.RowKit Go.Maps Mem
set_option linter.unusedSimpArgs false
set_option linter.unusedVariables false

theorem mput {w : World} {M : Nat} {E : List Mb} (h : MMap w M E) (m : Mb) (hw : m.Wf) :
    ∃ w', (Instr.mapUpdate 53 (.map (some M)) (keyV m.node m.region) (mbV m)).run Try.prog w = .ok () w' ∧ MMap w' M (putF E m) ∧ But (· = M) w w' := by
  obtain ⟨l, hl⟩ := key_lit m.node m.region hw.n1 hw.n2 hw.r1 hw.r2
  cases hg : find E m.node m.region with
  | none =>
    rw [putF_none hg]
    obtain ⟨w', h1, h2, h3⟩ := h.put_new memKeyed Try.underlying53 (v := mbV m) hl (fun p hp e => by
      obtain ⟨q, hq, rfl⟩ := List.mem_map.1 hp
      exact List.find?_eq_none.1 hg q hq (keyV_eq.1 e))
    exact ⟨w', h1, by unfold MMap; rw [List.map_append]; exact h2, h3⟩
  | some q =>
    obtain ⟨a, b, e1, e2⟩ := putF_some hg
    obtain ⟨_, k1, k2⟩ := find_some hg
    rw [e2]
    have h' : MapAt Try.prog 62 w M (a.map mEnt ++ (keyV m.node m.region, mbV q) :: b.map mEnt) := by
      have := h
      unfold MMap at this
      rw [e1, List.map_append, List.map_cons] at this
      rwa [show mEnt q = (keyV m.node m.region, mbV q) by show (keyV q.node q.region, mbV q) = _; rw [k1, k2]] at this
    obtain ⟨w', h1, h2, h3⟩ := h'.put_old memKeyed Try.underlying53 (v := mbV m) hl
    exact ⟨w', h1, by unfold MMap; rw [List.map_append, List.map_cons]; exact h2, h3⟩
namespace Mem
theorem putF_mem {E : List Mb} {m x : Mb} (h : x ∈ putF E m) : x = m ∨ x ∈ E := by
  induction E with
  | nil => exact .inl (by simpa [putF] using h)
  | cons y r ih =>
    rw [putF] at h
    split at h
    · rcases List.mem_cons.1 h with h | h
      · exact .inl h
      · exact .inr (by simp [h])
    · rcases List.mem_cons.1 h with h | h
      · exact .inr (by simp [h])
      · exact (ih h).imp id (fun h => by simp [h])
end Mem

set_option maxHeartbeats 4000000 in
set_option maxRecDepth 100000 in
theorem mTell_c {B M : Nat} {E : List Mb} (m : Mb) (hw : m.Wf) (w : World) (h : RollAt w B M E) :
    Calls Try.prog 12 #[.pointer (some ⟨B, 0, none⟩), mbV m] w fun en w' => en = .returned (.int .i64 (tellE E m)) ∧ RollAt w' B M (tellF E m) ∧ But (· = M) w w' := by
  have hmf : ∀ (fn : Fn) (first cap : Array Value) (w : World), (Instr.makeFunc fn first cap).run Try.prog w = .ok (.func fn first cap) w := fun _ _ _ _ => rfl
  have hBl := h.var.lt
  have hMl := h.map.lt
  have hB2 : Below w.heap.size w ((w.alloc (.cells #[.pointer (some ⟨B, 0, none⟩)] 27)).alloc (.cells (mbC m).toArray 24)) := (below_alloc w _).alloc (by simp) _
  have V2 : TlW ((w.alloc (.cells #[.pointer (some ⟨B, 0, none⟩)] 27)).alloc (.cells (mbC m).toArray 24)) w.heap.size (w.heap.size + 1) B M E m := ⟨cell_up (below_alloc _ _) (cell_new w _ _), by have := RowAt.new (w.alloc (.cells #[.pointer (some ⟨B, 0, none⟩)] 27)) (mbC m).toArray 24; rwa [World.size_alloc] at this, h.below hB2⟩
  have hsl : Sl (((w.alloc (.cells #[.pointer (some ⟨B, 0, none⟩)] 27)).alloc (.cells (mbC m).toArray 24)).alloc (.cells [.func (.func 26) #[.pointer (some ⟨B, 0, none⟩)] #[], .int .i64 1, .func (.func 27) #[] #[.pointer (some ⟨w.heap.size + 1, 0, none⟩)], .int .i64 2, .func (.func 28) #[] #[.pointer (some ⟨w.heap.size, 0, none⟩), .pointer (some ⟨w.heap.size + 1, 0, none⟩)], .int .i64 300, .func (.func 30) #[] #[.pointer (some ⟨w.heap.size, 0, none⟩), .pointer (some ⟨w.heap.size + 1, 0, none⟩)], .int .i64 301].toArray 58)) 2 (.slice (some ⟨w.heap.size + 1 + 1, 0, none⟩) 4 4) 4 [.func (.func 26) #[.pointer (some ⟨B, 0, none⟩)] #[], .int .i64 1, .func (.func 27) #[] #[.pointer (some ⟨w.heap.size + 1, 0, none⟩)], .int .i64 2, .func (.func 28) #[] #[.pointer (some ⟨w.heap.size, 0, none⟩), .pointer (some ⟨w.heap.size + 1, 0, none⟩)], .int .i64 300, .func (.func 30) #[] #[.pointer (some ⟨w.heap.size, 0, none⟩), .pointer (some ⟨w.heap.size + 1, 0, none⟩)], .int .i64 301] := by
    have := Sl.of_own (World.ownsRow_lit ((w.alloc (.cells #[.pointer (some ⟨B, 0, none⟩)] 27)).alloc (.cells (mbC m).toArray 24)) [.func (.func 26) #[.pointer (some ⟨B, 0, none⟩)] #[], .int .i64 1, .func (.func 27) #[] #[.pointer (some ⟨w.heap.size + 1, 0, none⟩)], .int .i64 2, .func (.func 28) #[] #[.pointer (some ⟨w.heap.size, 0, none⟩), .pointer (some ⟨w.heap.size + 1, 0, none⟩)], .int .i64 300, .func (.func 30) #[] #[.pointer (some ⟨w.heap.size, 0, none⟩), .pointer (some ⟨w.heap.size + 1, 0, none⟩)], .int .i64 301].toArray 4 (size := 2) (e := 58) (base := w.heap.size) (by simp; omega) (by decide) rfl)
    simp only [World.size_alloc] at this
    exact this
  have V3 := V2.up (below_alloc _ (.cells [.func (.func 26) #[.pointer (some ⟨B, 0, none⟩)] #[], .int .i64 1, .func (.func 27) #[] #[.pointer (some ⟨w.heap.size + 1, 0, none⟩)], .int .i64 2, .func (.func 28) #[] #[.pointer (some ⟨w.heap.size, 0, none⟩), .pointer (some ⟨w.heap.size + 1, 0, none⟩)], .int .i64 300, .func (.func 30) #[] #[.pointer (some ⟨w.heap.size, 0, none⟩), .pointer (some ⟨w.heap.size + 1, 0, none⟩)], .int .i64 301].toArray 58))
  have hask := cAsked_c [⟨26, #[.pointer (some ⟨B, 0, none⟩)], #[], 1, false⟩, ⟨27, #[], #[.pointer (some ⟨w.heap.size + 1, 0, none⟩)], 2, zB m⟩, ⟨28, #[], #[.pointer (some ⟨w.heap.size, 0, none⟩), .pointer (some ⟨w.heap.size + 1, 0, none⟩)], 300, oldB E m⟩, ⟨30, #[], #[.pointer (some ⟨w.heap.size, 0, none⟩), .pointer (some ⟨w.heap.size + 1, 0, none⟩)], 301, fullB E m⟩] _ 4 _ (show Sl (((w.alloc (.cells #[.pointer (some ⟨B, 0, none⟩)] 27)).alloc (.cells (mbC m).toArray 24)).alloc (.cells [.func (.func 26) #[.pointer (some ⟨B, 0, none⟩)] #[], .int .i64 1, .func (.func 27) #[] #[.pointer (some ⟨w.heap.size + 1, 0, none⟩)], .int .i64 2, .func (.func 28) #[] #[.pointer (some ⟨w.heap.size, 0, none⟩), .pointer (some ⟨w.heap.size + 1, 0, none⟩)], .int .i64 300, .func (.func 30) #[] #[.pointer (some ⟨w.heap.size, 0, none⟩), .pointer (some ⟨w.heap.size + 1, 0, none⟩)], .int .i64 301].toArray 58)) 2 (.slice (some ⟨w.heap.size + 1 + 1, 0, none⟩) 4 4) 4 ([⟨26, #[.pointer (some ⟨B, 0, none⟩)], #[], 1, false⟩, ⟨27, #[], #[.pointer (some ⟨w.heap.size + 1, 0, none⟩)], 2, zB m⟩, ⟨28, #[], #[.pointer (some ⟨w.heap.size, 0, none⟩), .pointer (some ⟨w.heap.size + 1, 0, none⟩)], 300, oldB E m⟩, ⟨30, #[], #[.pointer (some ⟨w.heap.size, 0, none⟩), .pointer (some ⟨w.heap.size + 1, 0, none⟩)], 301, fullB E m⟩].flatMap askC) from hsl)
    (by intro a ha; simp only [List.mem_cons, List.not_mem_nil, or_false] at ha; rcases ha with rfl | rfl | rfl | rfl; exact enters_none; exact enters_tell1; exact enters_tell2; exact enters_tell3)
    (by
      intro a ha w1 hb
      have V := V3.up hb
      simp only [List.mem_cons, List.not_mem_nil, or_false] at ha
      rcases ha with rfl | rfl | rfl | rfl
      · exact (Calls.cast rfl (rNone_c w1 V.roll)).mono fun en w' ⟨he, hw'⟩ => ⟨he, hw' ▸ Below.refl _ _⟩
      · exact Calls.cast rfl (mTell1_c _ m hw w1 V.mb)
      · exact Calls.cast rfl (mTell2_c m hw w1 V)
      · exact Calls.cast rfl (mTell3_c m hw w1 V))
  obtain ⟨e, he⟩ : ∃ e, e = tellE E m := ⟨_, rfl⟩
  have hEask : askF [⟨26, #[.pointer (some ⟨B, 0, none⟩)], #[], 1, false⟩, ⟨27, #[], #[.pointer (some ⟨w.heap.size + 1, 0, none⟩)], 2, zB m⟩, ⟨28, #[], #[.pointer (some ⟨w.heap.size, 0, none⟩), .pointer (some ⟨w.heap.size + 1, 0, none⟩)], 300, oldB E m⟩, ⟨30, #[], #[.pointer (some ⟨w.heap.size, 0, none⟩), .pointer (some ⟨w.heap.size + 1, 0, none⟩)], 301, fullB E m⟩] = e := by
    rw [he]
    unfold tellE askF
    cases zB m <;> cases oldB E m <;> cases fullB E m <;> simp [List.find?]
  rw [hEask] at hask
  have hB3 : Below w.heap.size w (((w.alloc (.cells #[.pointer (some ⟨B, 0, none⟩)] 27)).alloc (.cells (mbC m).toArray 24)).alloc (.cells [.func (.func 26) #[.pointer (some ⟨B, 0, none⟩)] #[], .int .i64 1, .func (.func 27) #[] #[.pointer (some ⟨w.heap.size + 1, 0, none⟩)], .int .i64 2, .func (.func 28) #[] #[.pointer (some ⟨w.heap.size, 0, none⟩), .pointer (some ⟨w.heap.size + 1, 0, none⟩)], .int .i64 300, .func (.func 30) #[] #[.pointer (some ⟨w.heap.size, 0, none⟩), .pointer (some ⟨w.heap.size + 1, 0, none⟩)], .int .i64 301].toArray 58)) := below_up hB2 (below_alloc _ _)
  have HE := Lib.hid he
  rw [← he]
  clear hsl V2 hEask he
  by_cases he0 : e = 0
  · have hF : tellF E m = putF E m := by unfold tellF; rw [if_pos (HE.out.symm.trans he0)]
    subst he0
    have HF := Lib.hid hF
    clear hF
    go_enter Try.func12, Try.ntmps12
    go_wp2_with (go_at_call 25; refine hask.mono ?_; rintro en w4 ⟨rfl, hb4⟩; have V4 := V3.up hb4; have hB4 := below_up hB3 hb4)
    refine wp_region_pt ((· = M)) (.q 0 (.q 1 (.q 2 (.q 3 (.q 4 (.q 5 (.q 6 (.q 7 (.q 8 (.q 9 (.c 10 .done))))))))))) (by kernel_rfl) (by kernel_rfl) (by kernel_rfl) (by decide) (fun _ _ d _ _ h => by cases d <;> exact h) (fun Wd hBd => ?_)
    try simp only [Act.put, List.getElem_toArray, List.getElem_cons_zero, List.getElem_cons_succ, List.setIfInBounds_toArray, List.set_cons_zero, List.set_cons_succ]
    have V := V4.up hBd
    have hBD := below_up hB4 hBd
    have hPl := World.block_lt_of_cell? w4 _ V4.ptr
    have cp : ∀ w', But (· = M) Wd w' → w'.cell? ⟨w.heap.size, 0, none⟩ = some (.pointer (some ⟨B, 0, none⟩)) := fun w' hb => hb.cell V.ptr (by omega)
    have cm : ∀ w', But (· = M) Wd w' → w'.cell? ⟨B, 0, none⟩ = some (.map (some M)) := fun w' hb => hb.cell (V.roll.var.cell (i := 0) rfl) h.ne
    have c0 : ∀ w', But (· = M) Wd w' → w'.cell? ⟨w.heap.size + 1, 0, none⟩ = some (.int .u32 m.node) := fun w' hb => hb.cell (V.mb.cell (i := 0) rfl) (by omega)
    have c1 : ∀ w', But (· = M) Wd w' → w'.cell? ⟨w.heap.size + 1, 1, none⟩ = some (.int .u32 m.region) := fun w' hb => hb.cell (V.mb.cell (i := 1) rfl) (by omega)
    obtain ⟨w6, hrun, hm6, hb6⟩ := mput V.roll.map m hw
    refine pt_q (v := ?_) rfl (by rfl) ?_ ?_
    rotate_left
    · intro w' hBw'
      first | (go_simp; done) | (go_simp; with_reducible rfl)
    try simp only [Act.put, List.getElem_toArray, List.getElem_cons_zero, List.getElem_cons_succ, List.setIfInBounds_toArray, List.set_cons_zero, List.set_cons_succ]
    refine pt_q (v := ?_) rfl (by rfl) ?_ ?_
    rotate_left
    · intro w' hBw'
      first | (go_simp; done) | (go_simp; with_reducible rfl)
    try simp only [Act.put, List.getElem_toArray, List.getElem_cons_zero, List.getElem_cons_succ, List.setIfInBounds_toArray, List.set_cons_zero, List.set_cons_succ]
    refine pt_q (v := ?_) rfl (by rfl) ?_ ?_
    rotate_left
    · intro w' hBw'
      first | (go_simp; done) | (go_simp; with_reducible rfl)
    try simp only [Act.put, List.getElem_toArray, List.getElem_cons_zero, List.getElem_cons_succ, List.setIfInBounds_toArray, List.set_cons_zero, List.set_cons_succ]
    refine pt_q (v := ?_) rfl (by rfl) ?_ ?_
    rotate_left
    · intro w' hBw'
      first | (go_simp; done) | (go_simp; with_reducible rfl)
    try simp only [Act.put, List.getElem_toArray, List.getElem_cons_zero, List.getElem_cons_succ, List.setIfInBounds_toArray, List.set_cons_zero, List.set_cons_succ]
    refine pt_q (v := ?_) rfl (by rfl) ?_ ?_
    rotate_left
    · intro w' hBw'
      first | (go_simp; done) | (go_simp; with_reducible rfl)
    try simp only [Act.put, List.getElem_toArray, List.getElem_cons_zero, List.getElem_cons_succ, List.setIfInBounds_toArray, List.set_cons_zero, List.set_cons_succ]
    refine pt_q (v := ?_) rfl (by rfl) ?_ ?_
    rotate_left
    · intro w' hBw'
      first | (go_simp; done) | (go_simp; with_reducible rfl)
    try simp only [Act.put, List.getElem_toArray, List.getElem_cons_zero, List.getElem_cons_succ, List.setIfInBounds_toArray, List.set_cons_zero, List.set_cons_succ]
    refine pt_q (v := ?_) rfl (by rfl) ?_ ?_
    rotate_left
    · intro w' hBw'
      first | (go_simp; done) | (go_simp; with_reducible rfl)
    try simp only [Act.put, List.getElem_toArray, List.getElem_cons_zero, List.getElem_cons_succ, List.setIfInBounds_toArray, List.set_cons_zero, List.set_cons_succ]
    refine pt_q (v := ?_) rfl (by rfl) ?_ ?_
    rotate_left
    · intro w' hBw'
      first | (go_simp; done) | (go_simp; with_reducible rfl)
    try simp only [Act.put, List.getElem_toArray, List.getElem_cons_zero, List.getElem_cons_succ, List.setIfInBounds_toArray, List.set_cons_zero, List.set_cons_succ]
    refine pt_q (v := ?_) rfl (by rfl) ?_ ?_
    rotate_left
    · intro w' hBw'
      first | (go_simp; done) | (go_simp; with_reducible rfl)
    try simp only [Act.put, List.getElem_toArray, List.getElem_cons_zero, List.getElem_cons_succ, List.setIfInBounds_toArray, List.set_cons_zero, List.set_cons_succ]
    refine pt_load rfl (by rfl) 24 (.tmp 3) rfl (w.heap.size + 1) 0 rfl (mbC m) _ V.mb.range (by omega) Try.underlying24 rfl (by kernel_rfl) ?_
    try simp only [Act.put, List.getElem_toArray, List.getElem_cons_zero, List.getElem_cons_succ, List.setIfInBounds_toArray, List.set_cons_zero, List.set_cons_succ]
    refine pt_c ?_
    refine pt_put rfl (by rfl) 53 (.tmp 22) (.tmp 27) (.tmp 28) rfl rfl rfl rfl hrun hb6 ?_
    try simp only [Act.put, List.getElem_toArray, List.getElem_cons_zero, List.getElem_cons_succ, List.setIfInBounds_toArray, List.set_cons_zero, List.set_cons_succ]
    refine pt_done ?_
    go_wp2
    go_ret
    refine ⟨rfl, ?_, (But.of_below hBD).trans hb6⟩
    rw [HF.out]
    exact ⟨(hb6.same B V.roll.var.lt h.ne).trans V.roll.var, hm6, h.ne, fun x hx => by rcases putF_mem hx with rfl | hx; exact hw; exact h.wf x hx⟩
  · have hF : tellF E m = E := by unfold tellF; rw [if_neg (fun h => he0 (HE.out.trans h))]
    have HF := Lib.hid hF
    have hne : (e == 0) = false := by rw [beq_eq_false_iff_ne]; exact he0
    clear hF he0
    go_enter Try.func12, Try.ntmps12
    go_wp2_with (go_at_call 25; refine hask.mono ?_; rintro en w4 ⟨rfl, hb4⟩)
    go_ret
    refine ⟨rfl, ?_, But.of_below (below_up hB3 hb4)⟩
    rw [HF.out]
    exact h.below (below_up hB3 hb4)
end Go.Proofs.Yteakpppabgbpeaa
