/-
  The contract of the closure that puts an event into the tales.
-/
import Derived.Test.YthlgoclidgfejaaTraceJ
import Derived.Test.YthlgoclidgfejaaTraceK
import Derived.Test.YthlgoclidgfejaaTraceF
namespace Go.Proofs.Ythlgoclidgfejaa
open Go.RowKit Go.Maps Trc
set_option linter.unusedSimpArgs false
set_option linter.unusedVariables false

set_option maxHeartbeats 4000000 in
set_option maxRecDepth 100000 in
theorem put_c (e : Ev) (w : World) (C M base : Nat) (done : List Ev) (T : List (Nm × Nat)) (h0 : TS w C M base done done T) (hN0 : T.map (·.1) = nmsOf done) (hwf : e.name.wf) (hlen : done.length ≤ 4096) (hbase : base ≤ w.heap.size) :
    Calls Try.prog 38 #[evV e, .pointer (some ⟨C, 0, none⟩)] w (PutPost w C M base (done ++ [e]) T) := by
  obtain ⟨key, hkey⟩ := nm_key e.name hwf
  have hCl := h0.clt
  have hMl := h0.map.lt
  have E1 := RowAt.new w (evA e) 48
  have S1 := (h0.fst hN0 e).below (below_alloc w (.cells (evA e) 48))
  have hC1 := S1.var
  have hEM : ¬ w.heap.size = M := by omega
  have b1 : But (fun j => j = M ∨ ∃ p ∈ T, p.2 = j) w (w.alloc (.cells (evA e) 48)) := But.alloc _ _
  unfold PutPost
  by_cases hin : e.name ∈ nmsOf done
  · obtain ⟨⟨en, b⟩, hm, he⟩ := List.mem_map.1 (by rw [← hN0] at hin; exact hin)
    simp only at he
    subst he
    have hEb : ¬ w.heap.size = b := by have := (h0.rows _ hm).lt; simp only at this; omega
    have hlook := tlook_some S1.map hwf hm false
    simp only [Bool.false_eq_true, if_false] at hlook
    go_enter Try.func38, Try.ntmps38
    go_wp2_with (first
      | (refine wpList_load_mid rfl 39 (.tmp 4) rfl w.heap.size 5 rfl (nmC e.name) _ (rangeAt_sub E1.range 5 5 rfl (fun j hj => by rcases j with _ | _ | _ | _ | j <;> first | rfl | (simp at hj; omega))) Try.underlying39 rfl (by kernel_rfl) ?_)
      | (refine wpList_look rfl 71 (.tmp 3) (.tmp 5) false rfl (mv := .map (some M)) (iv := nmV e.name) rfl rfl hlook ?_))
    have S3 := S1
    have E3 := E1
    have hb3 := b1
    have hN : T.map (·.1) = nmsOf (done ++ [e]) := by rw [nmsOf_snoc, nmsStep, if_pos hin]; exact hN0
    have hT3 : ∀ p ∈ T, p ∈ T ∨ w.heap.size ≤ p.2 := fun p hp => .inl hp
    refine wp_region_po (· = b) [(0, false), (1, false), (2, false), (3, false), (4, false), (5, true)] (by kernel_rfl) (by kernel_rfl) (by kernel_rfl) rfl (fun _ _ d _ _ h => by cases d <;> exact h) (fun Wd hBd => ?_)
    try simp only [Act.put, List.getElem_toArray, List.getElem_cons_zero, List.getElem_cons_succ, List.setIfInBounds_toArray, List.set_cons_zero, List.set_cons_succ]
    have hS3 := S3.below hBd
    have E3d := E3.below hBd
    have c3 : ∀ w', But (· = b) Wd w' → w'.cell? ⟨C, 0, none⟩ = some (.map (some M)) := fun w' h => h.cell hS3.var (fun e => (hS3.apart _ hm).1 e.symm)
    refine po_q (v := ?_) rfl (by rfl) ?_ ?_
    rotate_left
    · intro w' hBw'
      first | (go_simp; done) | (go_simp; with_reducible rfl)
    try simp only [Act.put, List.getElem_toArray, List.getElem_cons_zero, List.getElem_cons_succ, List.setIfInBounds_toArray, List.set_cons_zero, List.set_cons_succ]
    refine po_q (v := ?_) rfl (by rfl) ?_ ?_
    rotate_left
    · intro w' hBw'
      first | (go_simp; done) | (go_simp; with_reducible rfl)
    try simp only [Act.put, List.getElem_toArray, List.getElem_cons_zero, List.getElem_cons_succ, List.setIfInBounds_toArray, List.set_cons_zero, List.set_cons_succ]
    refine po_load rfl (by rfl) 39 (.tmp 14) rfl w.heap.size 5 rfl (nmC e.name) _ (rangeAt_sub E3d.range 5 5 rfl (fun j hj => by rcases j with _ | _ | _ | _ | j <;> first | rfl | (simp at hj; omega))) hEb Try.underlying39 rfl (by kernel_rfl) ?_
    try simp only [Act.put, List.getElem_toArray, List.getElem_cons_zero, List.getElem_cons_succ, List.setIfInBounds_toArray, List.set_cons_zero, List.set_cons_succ]
    refine po_look rfl (by rfl) 71 (.tmp 13) (.tmp 15) false rfl (mv := .map (some M)) (xv := nmV e.name) rfl rfl (fun w' h => tlook_some (hS3.map.heap (h.same M hS3.map.lt (fun e => (hS3.apart _ hm).2.1 e.symm))) hwf hm false) ?_
    try simp only [Act.put, List.getElem_toArray, List.getElem_cons_zero, List.getElem_cons_succ, List.setIfInBounds_toArray, List.set_cons_zero, List.set_cons_succ]
    refine po_load rfl (by rfl) 48 (.tmp 2) rfl w.heap.size 0 rfl (evC e) _ E3d.range hEb Try.underlying48 rfl (by kernel_rfl) ?_
    try simp only [Act.put, List.getElem_toArray, List.getElem_cons_zero, List.getElem_cons_succ, List.setIfInBounds_toArray, List.set_cons_zero, List.set_cons_succ]
    refine po_c rfl (by rfl) (fun K hK => ?_)
    go_simp
    refine (add_c e.name _ _ e b Wd (hS3.rows _ hm) (Nat.le_trans (evsOf_len _ _) hlen)).mono ?_
    rintro en w4 ⟨⟨v, rfl⟩, hr4, hb4⟩
    go_wp2_with fail
    refine hK.out _ _ hb4 ?_
    clear hK K
    try simp only [Act.put, List.getElem_toArray, List.getElem_cons_zero, List.getElem_cons_succ, List.setIfInBounds_toArray, List.set_cons_zero, List.set_cons_succ]
    refine po_nil ?_
    go_wp2
    go_end0
    refine ⟨⟨_, rfl⟩, ?_, T, hS3.take hm (by rw [hN]; exact nmsOf_nodup _) hr4 hb4, hN, hT3⟩
    refine (hb3.trans (But.of_below hBd)).then hb4 ?_
    rintro j hj rfl
    rcases hT3 _ hm with h1 | h1
    · exact .inr ⟨_, h1, rfl⟩
    · simp only at h1; omega
  · have hnT : e.name ∉ T.map (·.1) := by rw [hN0]; exact hin
    have hlook := tlook_none S1.map hwf hnT false
    simp only [Bool.false_eq_true, if_false] at hlook
    go_enter Try.func38, Try.ntmps38
    go_wp2_with (first
      | (refine wpList_load_mid rfl 39 (.tmp 4) rfl w.heap.size 5 rfl (nmC e.name) _ (rangeAt_sub E1.range 5 5 rfl (fun j hj => by rcases j with _ | _ | _ | _ | j <;> first | rfl | (simp at hj; omega))) Try.underlying39 rfl (by kernel_rfl) ?_)
      | (refine wpList_look rfl 71 (.tmp 3) (.tmp 5) false rfl (mv := .map (some M)) (iv := nmV e.name) rfl rfl hlook ?_))
    refine wp_region_po (· = M) [(0, false), (1, false), (2, false), (3, false), (4, true), (5, true)] (by kernel_rfl) (by kernel_rfl) (by kernel_rfl) rfl (fun _ _ d _ _ h => by cases d <;> exact h) (fun Wd hBd => ?_)
    try simp only [Act.put, List.getElem_toArray, List.getElem_cons_zero, List.getElem_cons_succ, List.setIfInBounds_toArray, List.set_cons_zero, List.set_cons_succ]
    have hS2 := S1.below hBd
    have E2 := E1.below hBd
    have c2 : ∀ w', But (· = M) Wd w' → w'.cell? ⟨C, 0, none⟩ = some (.map (some M)) := fun w' h => h.cell hS2.var h0.ne
    refine po_q (v := ?_) rfl (by rfl) ?_ ?_
    rotate_left
    · intro w' hBw'
      first | (go_simp; done) | (go_simp; with_reducible rfl)
    try simp only [Act.put, List.getElem_toArray, List.getElem_cons_zero, List.getElem_cons_succ, List.setIfInBounds_toArray, List.set_cons_zero, List.set_cons_succ]
    refine po_q (v := ?_) rfl (by rfl) ?_ ?_
    rotate_left
    · intro w' hBw'
      first | (go_simp; done) | (go_simp; with_reducible rfl)
    try simp only [Act.put, List.getElem_toArray, List.getElem_cons_zero, List.getElem_cons_succ, List.setIfInBounds_toArray, List.set_cons_zero, List.set_cons_succ]
    refine po_load rfl (by rfl) 39 (.tmp 9) rfl w.heap.size 5 rfl (nmC e.name) _ (rangeAt_sub E2.range 5 5 rfl (fun j hj => by rcases j with _ | _ | _ | _ | j <;> first | rfl | (simp at hj; omega))) hEM Try.underlying39 rfl (by kernel_rfl) ?_
    try simp only [Act.put, List.getElem_toArray, List.getElem_cons_zero, List.getElem_cons_succ, List.setIfInBounds_toArray, List.set_cons_zero, List.set_cons_succ]
    refine po_load rfl (by rfl) 48 (.tmp 2) rfl w.heap.size 0 rfl (evC e) _ E2.range hEM Try.underlying48 rfl (by kernel_rfl) ?_
    try simp only [Act.put, List.getElem_toArray, List.getElem_cons_zero, List.getElem_cons_succ, List.setIfInBounds_toArray, List.set_cons_zero, List.set_cons_succ]
    refine po_c rfl (by rfl) (fun K hK => ?_)
    go_simp
    refine (begun_c e Wd).mono ?_
    rintro en w2 ⟨b, rfl, hbs, hrb, hb2⟩
    have hS2b := hS2.below hb2
    have E2b := E2.below hb2
    obtain ⟨w3, hput, hm3, hb3M⟩ := hS2b.map.put_new nameKeyed Try.underlying71 hkey (v := .pointer (some ⟨b, 0, none⟩)) (fun p hp e1 => by obtain ⟨q, hq, rfl⟩ := List.mem_map.1 hp; exact hnT (List.mem_map.2 ⟨q, hq, nmV_inj e1⟩))
    go_wp2_with fail
    refine hK.out _ _ (But.of_below hb2) ?_
    clear hK K
    try simp only [Act.put, List.getElem_toArray, List.getElem_cons_zero, List.getElem_cons_succ, List.setIfInBounds_toArray, List.set_cons_zero, List.set_cons_succ]
    refine po_put rfl (by rfl) 71 (.tmp 8) (.tmp 10) (.tmp 12) rfl (mv := .map (some M)) (xv := nmV e.name) (yv := .pointer (some ⟨b, 0, none⟩)) rfl rfl rfl hput hb3M ?_
    try simp only [Act.put, List.getElem_toArray, List.getElem_cons_zero, List.getElem_cons_succ, List.setIfInBounds_toArray, List.set_cons_zero, List.set_cons_succ]
    refine po_nil ?_
    have hbs' : w.heap.size + 1 ≤ b := by have := hBd.size; simp at this; omega
    have hbT : ∀ p ∈ T, p.2 ≠ b := fun p hp => by have := (h0.rows p hp).lt; omega
    have S3 := hS2b.more hnT hin hrb hbT (by omega) (by omega) (by omega) hm3 hb3M
    have E3 : RowAt w3 w.heap.size (evA e) 48 := (hb3M.same _ E2b.lt hEM).trans E2b
    have hEb : ¬ w.heap.size = b := by omega
    have hm : (e.name, b) ∈ T ++ [(e.name, b)] := by simp
    have hN : (T ++ [(e.name, b)]).map (·.1) = nmsOf (done ++ [e]) := by rw [nmsOf_snoc, nmsStep, if_neg hin, List.map_append, hN0]; rfl
    have hT3 : ∀ p ∈ T ++ [(e.name, b)], p ∈ T ∨ w.heap.size ≤ p.2 := fun p hp => by
      rcases List.mem_append.1 hp with hp | hp
      · exact .inl hp
      · rw [List.mem_singleton.1 hp]; simp only; omega
    have hb3 : But (fun j => j = M ∨ ∃ p ∈ T, p.2 = j) w w3 := ((b1.trans (But.of_below hBd)).trans (But.of_below hb2)).trans (hb3M.mono fun k _ hk => .inl hk)
    go_wp2
    refine wp_region_po (· = b) [(0, false), (1, false), (2, false), (3, false), (4, false), (5, true)] (by kernel_rfl) (by kernel_rfl) (by kernel_rfl) rfl (fun _ _ d _ _ h => by cases d <;> exact h) (fun We hBe => ?_)
    try simp only [Act.put, List.getElem_toArray, List.getElem_cons_zero, List.getElem_cons_succ, List.setIfInBounds_toArray, List.set_cons_zero, List.set_cons_succ]
    have hS3 := S3.below hBe
    have E3d := E3.below hBe
    have c3 : ∀ w', But (· = b) We w' → w'.cell? ⟨C, 0, none⟩ = some (.map (some M)) := fun w' h => h.cell hS3.var (fun e => (hS3.apart _ hm).1 e.symm)
    refine po_q (v := ?_) rfl (by rfl) ?_ ?_
    rotate_left
    · intro w' hBw'
      first | (go_simp; done) | (go_simp; with_reducible rfl)
    try simp only [Act.put, List.getElem_toArray, List.getElem_cons_zero, List.getElem_cons_succ, List.setIfInBounds_toArray, List.set_cons_zero, List.set_cons_succ]
    refine po_q (v := ?_) rfl (by rfl) ?_ ?_
    rotate_left
    · intro w' hBw'
      first | (go_simp; done) | (go_simp; with_reducible rfl)
    try simp only [Act.put, List.getElem_toArray, List.getElem_cons_zero, List.getElem_cons_succ, List.setIfInBounds_toArray, List.set_cons_zero, List.set_cons_succ]
    refine po_load rfl (by rfl) 39 (.tmp 14) rfl w.heap.size 5 rfl (nmC e.name) _ (rangeAt_sub E3d.range 5 5 rfl (fun j hj => by rcases j with _ | _ | _ | _ | j <;> first | rfl | (simp at hj; omega))) hEb Try.underlying39 rfl (by kernel_rfl) ?_
    try simp only [Act.put, List.getElem_toArray, List.getElem_cons_zero, List.getElem_cons_succ, List.setIfInBounds_toArray, List.set_cons_zero, List.set_cons_succ]
    refine po_look rfl (by rfl) 71 (.tmp 13) (.tmp 15) false rfl (mv := .map (some M)) (xv := nmV e.name) rfl rfl (fun w' h => tlook_some (hS3.map.heap (h.same M hS3.map.lt (fun e => (hS3.apart _ hm).2.1 e.symm))) hwf hm false) ?_
    try simp only [Act.put, List.getElem_toArray, List.getElem_cons_zero, List.getElem_cons_succ, List.setIfInBounds_toArray, List.set_cons_zero, List.set_cons_succ]
    refine po_load rfl (by rfl) 48 (.tmp 2) rfl w.heap.size 0 rfl (evC e) _ E3d.range hEb Try.underlying48 rfl (by kernel_rfl) ?_
    try simp only [Act.put, List.getElem_toArray, List.getElem_cons_zero, List.getElem_cons_succ, List.setIfInBounds_toArray, List.set_cons_zero, List.set_cons_succ]
    refine po_c rfl (by rfl) (fun K hK => ?_)
    go_simp
    refine (add_c e.name _ _ e b We (hS3.rows _ hm) (Nat.le_trans (evsOf_len _ _) hlen)).mono ?_
    rintro en w4 ⟨⟨v, rfl⟩, hr4, hb4⟩
    go_wp2_with fail
    refine hK.out _ _ hb4 ?_
    clear hK K
    try simp only [Act.put, List.getElem_toArray, List.getElem_cons_zero, List.getElem_cons_succ, List.setIfInBounds_toArray, List.set_cons_zero, List.set_cons_succ]
    refine po_nil ?_
    go_wp2
    go_end0
    refine ⟨⟨_, rfl⟩, ?_, T ++ [(e.name, b)], hS3.take hm (by rw [hN]; exact nmsOf_nodup _) hr4 hb4, hN, hT3⟩
    refine (hb3.trans (But.of_below hBe)).then hb4 ?_
    rintro j hj rfl
    rcases hT3 _ hm with h1 | h1
    · exact .inr ⟨_, h1, rfl⟩
    · simp only at h1; omega
end Go.Proofs.Ythlgoclidgfejaa
