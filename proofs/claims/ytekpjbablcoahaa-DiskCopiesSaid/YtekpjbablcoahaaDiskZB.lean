/-
  The law's act: Read, Lies; act whole.
-/
import Derived.Test.YtekpjbablcoahaaDiskZA
namespace Go.Proofs.Ytekpjbablcoahaa
open Go.RowKit Go.Maps Dk
set_option linter.unusedSimpArgs false
set_option linter.unusedVariables false

theorem Dk.sec_ne (s : Sec) : ¬ s.1 = [] := fun e => by have := s.2; rw [e] at this; cases this

set_option maxHeartbeats 1000000 in
set_option maxRecDepth 100000 in
theorem actOff_c (x : Ac) {B M : Nat} {u v : Value} {d : Disk} {r : RDisk} (w : World) (hd : DiskAt w B M u d) (hr : RefAt w v r) (hrel : Rel d r) (hx : AcAt w x) (hw0 : ¬ x.what = 0) (hw2 : ¬ x.what = 2) (hw3 : ¬ x.what = 3) (hw4 : ¬ x.what = 4) (ho : offB x.sec d.many = true) :
    Calls Try.prog 20 #[.pointer (some ⟨B, 0, none⟩), v, acV x] w (ActP B M r w) := by
  obtain ⟨la, lc, wa, wc, rfl⟩ := hr.apart
  have V0 := DaW.start hd hr hx
  have c0 := V0.c.cell (i := 0) (v := .int .i64 x.what) rfl
  have c1 := V0.c.cell (i := 1) (v := .int .i64 x.sec) rfl
  have c2 := V0.c.cell (i := 2) (v := .int .i64 x.more) rfl
  have c3 := V0.c.cell (i := 3) (v := .int .u8 (x.byte.toNat : Int)) rfl
  have c4 := V0.c.cell (i := 4) (v := .slice x.ka x.kn x.kc) rfl
  have p0 := V0.p.cell (i := 0) (v := .slice la r.L.length lc) rfl
  have p1 := V0.p.cell (i := 1) (v := .slice wa r.W.length wc) rfl
  have p2 := V0.p.cell (i := 2) (v := .int .i64 r.armed) rfl
  have hlow := V0.low
  have d0 : (x.what == 0) = false := by simp [hw0]
  have d2 : (x.what == 2) = false := by simp [hw2]
  have d3 : (x.what == 3) = false := by simp [hw3]
  have d4 : (x.what == 4) = false := by simp [hw4]
  have HREL := Lib.hid hrel
  have hso : x.sec < 0 ∨ (0 ≤ x.sec ∧ (r.L.length : Int) ≤ x.sec) := by
    unfold offB at ho
    rw [Bool.or_eq_true, decide_eq_true_eq, decide_eq_true_eq, hrel.many] at ho
    omega
  have HO := Lib.hid ho
  clear hrel hd hr hx ho
  obtain ⟨b1, hb1⟩ : ∃ b1, (x.what == 1) = b1 := ⟨_, rfl⟩
  have hL := fun w u (h : DiskAt w B M u d) => dLiesBad_c x.sec w h HO.out
  have hR := fun w u (h : DiskAt w B M u d) => dReadBad_c x.sec w h HO.out
  have HL := Lib.hid hL
  have HRD := Lib.hid hR
  clear hL hR
  cases b1 with
  | false =>
    rcases hso with hso | ⟨hs0, hso⟩
    · have e1 : decide (0 ≤ x.sec) = false := decide_eq_false (by omega)
      go_enter Try.func20, Try.ntmps20
      go_wp2_with (first
        | (go_at_call 25; obtain ⟨u4, hD4⟩ := V0.disk; refine (HL.out _ _ hD4).mono ?_; rintro en w4 ⟨rfl, hb4⟩; have V4 := V0.up hb4; have k0 := V4.p.cell (i := 0) (v := .slice la r.L.length lc) rfl; have k3 := V4.c.cell (i := 1) (v := .int .i64 x.sec) rfl; have k4 := V4.c.cell (i := 0) (v := .int .i64 x.what) rfl; have k1 := V4.p.cell (i := 1) (v := .slice wa r.W.length wc) rfl; have k2 := V4.p.cell (i := 2) (v := .int .i64 r.armed) rfl; have V6 := V4)
        | (go_at_call 16; obtain ⟨u5, hD5⟩ := V4.disk; refine (HRD.out _ _ hD5).mono ?_; rintro en w5 ⟨rfl, hb5⟩; have V6 := V4.up hb5; have m0 := V6.p.cell (i := 0) (v := .slice la r.L.length lc) rfl; have m3 := V6.c.cell (i := 1) (v := .int .i64 x.sec) rfl; have m4 := V6.c.cell (i := 0) (v := .int .i64 x.what) rfl; have m1 := V6.p.cell (i := 1) (v := .slice wa r.W.length wc) rfl; have m2 := V6.p.cell (i := 2) (v := .int .i64 r.armed) rfl))
      refine wp_region_pt (fun i => i = B ∨ i = M ∨ i = w.heap.size + 1 + 1) (.q 0 (.q 1 (.q 2 (.q 3 (.q 4 (.q 5 (.c 6 (.q 7 (.q 8 (.c 9 (.q 10 .done))))))))))) (by kernel_rfl) (by kernel_rfl) (by kernel_rfl) (by decide) (fun _ _ d _ _ h => by cases d <;> exact h) (fun Wd hBd => ?_)
      try simp only [Act.put, List.getElem_toArray, List.getElem_cons_zero, List.getElem_cons_succ, List.setIfInBounds_toArray, List.set_cons_zero, List.set_cons_succ]
      have V8 := V6.up hBd
      have hlD := V8.z.lt
      have qp0 : ∀ w', But (fun i => i = B ∨ i = M ∨ i = w.heap.size + 1 + 1) Wd w' → w'.cell? ⟨w.heap.size, 0, none⟩ = some (.slice la r.L.length lc) := fun w' h => h.cell (V8.p.cell (i := 0) rfl) (by omega)
      have qp1 : ∀ w', But (fun i => i = B ∨ i = M ∨ i = w.heap.size + 1 + 1) Wd w' → w'.cell? ⟨w.heap.size, 1, none⟩ = some (.slice wa r.W.length wc) := fun w' h => h.cell (V8.p.cell (i := 1) rfl) (by omega)
      have qp2 : ∀ w', But (fun i => i = B ∨ i = M ∨ i = w.heap.size + 1 + 1) Wd w' → w'.cell? ⟨w.heap.size, 2, none⟩ = some (.int .i64 r.armed) := fun w' h => h.cell (V8.p.cell (i := 2) rfl) (by omega)
      refine pt_q (v := ?_) rfl (by rfl) ?_ ?_
      rotate_left
      · intro w' hBw'
        first | (go_simp; done) | (go_simp; with_reducible rfl)
      try simp only [Act.put, List.getElem_toArray, List.getElem_cons_zero, List.getElem_cons_succ, List.setIfInBounds_toArray, List.set_cons_zero, List.set_cons_succ]
      refine pt_q (v := ?_) rfl (by rfl) ?_ ?_
      rotate_left
      · intro w' hBw'
        first | (go_simp; done) | (go_simp; with_reducible rfl)
      try simp only [Act.put, List.getElem_toArray, List.getElem_cons_zero, List.getElem_cons_succ, List.setIfInBounds_toArray, List.set_cons_zero, List.set_cons_succ]
      refine pt_q (v := ?_) rfl (by rfl) ?_ ?_
      rotate_left
      · intro w' hBw'
        first | (go_simp; done) | (go_simp; with_reducible rfl)
      try simp only [Act.put, List.getElem_toArray, List.getElem_cons_zero, List.getElem_cons_succ, List.setIfInBounds_toArray, List.set_cons_zero, List.set_cons_succ]
      refine pt_q (v := ?_) rfl (by rfl) ?_ ?_
      rotate_left
      · intro w' hBw'
        first | (go_simp; done) | (go_simp; with_reducible rfl)
      try simp only [Act.put, List.getElem_toArray, List.getElem_cons_zero, List.getElem_cons_succ, List.setIfInBounds_toArray, List.set_cons_zero, List.set_cons_succ]
      refine pt_q (v := ?_) rfl (by rfl) ?_ ?_
      rotate_left
      · intro w' hBw'
        first | (go_simp; done) | (go_simp; with_reducible rfl)
      try simp only [Act.put, List.getElem_toArray, List.getElem_cons_zero, List.getElem_cons_succ, List.setIfInBounds_toArray, List.set_cons_zero, List.set_cons_succ]
      refine pt_q (v := ?_) rfl (by rfl) ?_ ?_
      rotate_left
      · intro w' hBw'
        first | (go_simp; done) | (go_simp; with_reducible rfl)
      try simp only [Act.put, List.getElem_toArray, List.getElem_cons_zero, List.getElem_cons_succ, List.setIfInBounds_toArray, List.set_cons_zero, List.set_cons_succ]
      refine pt_c ?_
      refine pt_step rfl (by rfl) (fun K hK => ?_)
      go_simp
      refine (dNum_c 4 _).mono ?_
      rintro en w7 ⟨rfl, rfl⟩
      refine hK.out _ _ (But.refl _ _) ?_
      clear hK K
      try simp only [Act.put, List.getElem_toArray, List.getElem_cons_zero, List.getElem_cons_succ, List.setIfInBounds_toArray, List.set_cons_zero, List.set_cons_succ]
      refine pt_q (v := ?_) rfl (by rfl) ?_ ?_
      rotate_left
      · intro w' hBw'
        first | (go_simp; done) | (go_simp; with_reducible rfl)
      try simp only [Act.put, List.getElem_toArray, List.getElem_cons_zero, List.getElem_cons_succ, List.setIfInBounds_toArray, List.set_cons_zero, List.set_cons_succ]
      refine pt_q (v := ?_) rfl (by rfl) ?_ ?_
      rotate_left
      · intro w' hBw'
        first | (go_simp; done) | (go_simp; with_reducible rfl)
      try simp only [Act.put, List.getElem_toArray, List.getElem_cons_zero, List.getElem_cons_succ, List.setIfInBounds_toArray, List.set_cons_zero, List.set_cons_succ]
      refine pt_c ?_
      refine pt_put_row rfl (by rfl) 47 _ _ rfl (w.heap.size + 1 + 1) [(.slice la r.L.length lc), (.slice wa r.W.length wc), (.int .i64 r.armed)] rfl rfl V8.z rfl (by kernel_rfl) rfl (.inr (.inr rfl)) (fun wA hRA hbA => ?_)
      try simp only [Act.put, List.getElem_toArray, List.getElem_cons_zero, List.getElem_cons_succ, List.setIfInBounds_toArray, List.set_cons_zero, List.set_cons_succ]
      refine pt_q (v := ?_) rfl (by rfl) ?_ ?_
      rotate_left
      · intro w' hBw'
        first | (go_simp; done) | (go_simp; with_reducible rfl)
      try simp only [Act.put, List.getElem_toArray, List.getElem_cons_zero, List.getElem_cons_succ, List.setIfInBounds_toArray, List.set_cons_zero, List.set_cons_succ]
      refine pt_done ?_
      have rA0 := hRA.cell (i := 0) rfl
      have rA1 := hRA.cell (i := 1) rfl
      have rA2 := hRA.cell (i := 2) rfl
      go_wp2
      exact bodyPost_ret (v := .tuple #[.agg #[.slice la r.L.length lc, .slice wa r.W.length wc, .int .i64 r.armed], .bool true]) (by simp [results, Try.results20, go_sem, rA0, rA1, rA2]) rfl (V8.fin V8.want HREL.out hbA)
    · have e1 : decide (x.sec < (r.L.length : Int)) = false := decide_eq_false (by omega)
      go_enter Try.func20, Try.ntmps20
      go_wp2_with (first
        | (go_at_call 25; obtain ⟨u4, hD4⟩ := V0.disk; refine (HL.out _ _ hD4).mono ?_; rintro en w4 ⟨rfl, hb4⟩; have V4 := V0.up hb4; have k0 := V4.p.cell (i := 0) (v := .slice la r.L.length lc) rfl; have k3 := V4.c.cell (i := 1) (v := .int .i64 x.sec) rfl; have k4 := V4.c.cell (i := 0) (v := .int .i64 x.what) rfl; have k1 := V4.p.cell (i := 1) (v := .slice wa r.W.length wc) rfl; have k2 := V4.p.cell (i := 2) (v := .int .i64 r.armed) rfl; have V6 := V4)
        | (go_at_call 16; obtain ⟨u5, hD5⟩ := V4.disk; refine (HRD.out _ _ hD5).mono ?_; rintro en w5 ⟨rfl, hb5⟩; have V6 := V4.up hb5; have m0 := V6.p.cell (i := 0) (v := .slice la r.L.length lc) rfl; have m3 := V6.c.cell (i := 1) (v := .int .i64 x.sec) rfl; have m4 := V6.c.cell (i := 0) (v := .int .i64 x.what) rfl; have m1 := V6.p.cell (i := 1) (v := .slice wa r.W.length wc) rfl; have m2 := V6.p.cell (i := 2) (v := .int .i64 r.armed) rfl))
      refine wp_region_pt (fun i => i = B ∨ i = M ∨ i = w.heap.size + 1 + 1) (.q 0 (.q 1 (.q 2 (.q 3 (.q 4 (.q 5 (.c 6 (.q 7 (.q 8 (.c 9 (.q 10 .done))))))))))) (by kernel_rfl) (by kernel_rfl) (by kernel_rfl) (by decide) (fun _ _ d _ _ h => by cases d <;> exact h) (fun Wd hBd => ?_)
      try simp only [Act.put, List.getElem_toArray, List.getElem_cons_zero, List.getElem_cons_succ, List.setIfInBounds_toArray, List.set_cons_zero, List.set_cons_succ]
      have V8 := V6.up hBd
      have hlD := V8.z.lt
      have qp0 : ∀ w', But (fun i => i = B ∨ i = M ∨ i = w.heap.size + 1 + 1) Wd w' → w'.cell? ⟨w.heap.size, 0, none⟩ = some (.slice la r.L.length lc) := fun w' h => h.cell (V8.p.cell (i := 0) rfl) (by omega)
      have qp1 : ∀ w', But (fun i => i = B ∨ i = M ∨ i = w.heap.size + 1 + 1) Wd w' → w'.cell? ⟨w.heap.size, 1, none⟩ = some (.slice wa r.W.length wc) := fun w' h => h.cell (V8.p.cell (i := 1) rfl) (by omega)
      have qp2 : ∀ w', But (fun i => i = B ∨ i = M ∨ i = w.heap.size + 1 + 1) Wd w' → w'.cell? ⟨w.heap.size, 2, none⟩ = some (.int .i64 r.armed) := fun w' h => h.cell (V8.p.cell (i := 2) rfl) (by omega)
      refine pt_q (v := ?_) rfl (by rfl) ?_ ?_
      rotate_left
      · intro w' hBw'
        first | (go_simp; done) | (go_simp; with_reducible rfl)
      try simp only [Act.put, List.getElem_toArray, List.getElem_cons_zero, List.getElem_cons_succ, List.setIfInBounds_toArray, List.set_cons_zero, List.set_cons_succ]
      refine pt_q (v := ?_) rfl (by rfl) ?_ ?_
      rotate_left
      · intro w' hBw'
        first | (go_simp; done) | (go_simp; with_reducible rfl)
      try simp only [Act.put, List.getElem_toArray, List.getElem_cons_zero, List.getElem_cons_succ, List.setIfInBounds_toArray, List.set_cons_zero, List.set_cons_succ]
      refine pt_q (v := ?_) rfl (by rfl) ?_ ?_
      rotate_left
      · intro w' hBw'
        first | (go_simp; done) | (go_simp; with_reducible rfl)
      try simp only [Act.put, List.getElem_toArray, List.getElem_cons_zero, List.getElem_cons_succ, List.setIfInBounds_toArray, List.set_cons_zero, List.set_cons_succ]
      refine pt_q (v := ?_) rfl (by rfl) ?_ ?_
      rotate_left
      · intro w' hBw'
        first | (go_simp; done) | (go_simp; with_reducible rfl)
      try simp only [Act.put, List.getElem_toArray, List.getElem_cons_zero, List.getElem_cons_succ, List.setIfInBounds_toArray, List.set_cons_zero, List.set_cons_succ]
      refine pt_q (v := ?_) rfl (by rfl) ?_ ?_
      rotate_left
      · intro w' hBw'
        first | (go_simp; done) | (go_simp; with_reducible rfl)
      try simp only [Act.put, List.getElem_toArray, List.getElem_cons_zero, List.getElem_cons_succ, List.setIfInBounds_toArray, List.set_cons_zero, List.set_cons_succ]
      refine pt_q (v := ?_) rfl (by rfl) ?_ ?_
      rotate_left
      · intro w' hBw'
        first | (go_simp; done) | (go_simp; with_reducible rfl)
      try simp only [Act.put, List.getElem_toArray, List.getElem_cons_zero, List.getElem_cons_succ, List.setIfInBounds_toArray, List.set_cons_zero, List.set_cons_succ]
      refine pt_c ?_
      refine pt_step rfl (by rfl) (fun K hK => ?_)
      go_simp
      refine (dNum_c 4 _).mono ?_
      rintro en w7 ⟨rfl, rfl⟩
      refine hK.out _ _ (But.refl _ _) ?_
      clear hK K
      try simp only [Act.put, List.getElem_toArray, List.getElem_cons_zero, List.getElem_cons_succ, List.setIfInBounds_toArray, List.set_cons_zero, List.set_cons_succ]
      refine pt_q (v := ?_) rfl (by rfl) ?_ ?_
      rotate_left
      · intro w' hBw'
        first | (go_simp; done) | (go_simp; with_reducible rfl)
      try simp only [Act.put, List.getElem_toArray, List.getElem_cons_zero, List.getElem_cons_succ, List.setIfInBounds_toArray, List.set_cons_zero, List.set_cons_succ]
      refine pt_q (v := ?_) rfl (by rfl) ?_ ?_
      rotate_left
      · intro w' hBw'
        first | (go_simp; done) | (go_simp; with_reducible rfl)
      try simp only [Act.put, List.getElem_toArray, List.getElem_cons_zero, List.getElem_cons_succ, List.setIfInBounds_toArray, List.set_cons_zero, List.set_cons_succ]
      refine pt_c ?_
      refine pt_put_row rfl (by rfl) 47 _ _ rfl (w.heap.size + 1 + 1) [(.slice la r.L.length lc), (.slice wa r.W.length wc), (.int .i64 r.armed)] rfl rfl V8.z rfl (by kernel_rfl) rfl (.inr (.inr rfl)) (fun wA hRA hbA => ?_)
      try simp only [Act.put, List.getElem_toArray, List.getElem_cons_zero, List.getElem_cons_succ, List.setIfInBounds_toArray, List.set_cons_zero, List.set_cons_succ]
      refine pt_q (v := ?_) rfl (by rfl) ?_ ?_
      rotate_left
      · intro w' hBw'
        first | (go_simp; done) | (go_simp; with_reducible rfl)
      try simp only [Act.put, List.getElem_toArray, List.getElem_cons_zero, List.getElem_cons_succ, List.setIfInBounds_toArray, List.set_cons_zero, List.set_cons_succ]
      refine pt_done ?_
      have rA0 := hRA.cell (i := 0) rfl
      have rA1 := hRA.cell (i := 1) rfl
      have rA2 := hRA.cell (i := 2) rfl
      go_wp2
      exact bodyPost_ret (v := .tuple #[.agg #[.slice la r.L.length lc, .slice wa r.W.length wc, .int .i64 r.armed], .bool true]) (by simp [results, Try.results20, go_sem, rA0, rA1, rA2]) rfl (V8.fin V8.want HREL.out hbA)
  | true =>
    rcases hso with hso | ⟨hs0, hso⟩
    · have e1 : decide (0 ≤ x.sec) = false := decide_eq_false (by omega)
      go_enter Try.func20, Try.ntmps20
      go_wp2_with (first
        | (go_at_call 25; obtain ⟨u4, hD4⟩ := V0.disk; refine (HL.out _ _ hD4).mono ?_; rintro en w4 ⟨rfl, hb4⟩; have V4 := V0.up hb4; have k0 := V4.p.cell (i := 0) (v := .slice la r.L.length lc) rfl; have k3 := V4.c.cell (i := 1) (v := .int .i64 x.sec) rfl; have k4 := V4.c.cell (i := 0) (v := .int .i64 x.what) rfl; have k1 := V4.p.cell (i := 1) (v := .slice wa r.W.length wc) rfl; have k2 := V4.p.cell (i := 2) (v := .int .i64 r.armed) rfl)
        | (go_at_call 16; obtain ⟨u5, hD5⟩ := V4.disk; refine (HRD.out _ _ hD5).mono ?_; rintro en w5 ⟨rfl, hb5⟩; have V6 := V4.up hb5; have m0 := V6.p.cell (i := 0) (v := .slice la r.L.length lc) rfl; have m3 := V6.c.cell (i := 1) (v := .int .i64 x.sec) rfl; have m4 := V6.c.cell (i := 0) (v := .int .i64 x.what) rfl; have m1 := V6.p.cell (i := 1) (v := .slice wa r.W.length wc) rfl; have m2 := V6.p.cell (i := 2) (v := .int .i64 r.armed) rfl))
      refine wp_region_pt (fun i => i = B ∨ i = M ∨ i = w.heap.size + 1 + 1) (.q 0 (.q 1 (.q 2 (.q 3 (.q 4 (.q 5 (.c 6 (.q 7 (.q 8 (.c 9 (.q 10 .done))))))))))) (by kernel_rfl) (by kernel_rfl) (by kernel_rfl) (by decide) (fun _ _ d _ _ h => by cases d <;> exact h) (fun Wd hBd => ?_)
      try simp only [Act.put, List.getElem_toArray, List.getElem_cons_zero, List.getElem_cons_succ, List.setIfInBounds_toArray, List.set_cons_zero, List.set_cons_succ]
      have V8 := V6.up hBd
      have hlD := V8.z.lt
      have qp0 : ∀ w', But (fun i => i = B ∨ i = M ∨ i = w.heap.size + 1 + 1) Wd w' → w'.cell? ⟨w.heap.size, 0, none⟩ = some (.slice la r.L.length lc) := fun w' h => h.cell (V8.p.cell (i := 0) rfl) (by omega)
      have qp1 : ∀ w', But (fun i => i = B ∨ i = M ∨ i = w.heap.size + 1 + 1) Wd w' → w'.cell? ⟨w.heap.size, 1, none⟩ = some (.slice wa r.W.length wc) := fun w' h => h.cell (V8.p.cell (i := 1) rfl) (by omega)
      have qp2 : ∀ w', But (fun i => i = B ∨ i = M ∨ i = w.heap.size + 1 + 1) Wd w' → w'.cell? ⟨w.heap.size, 2, none⟩ = some (.int .i64 r.armed) := fun w' h => h.cell (V8.p.cell (i := 2) rfl) (by omega)
      refine pt_q (v := ?_) rfl (by rfl) ?_ ?_
      rotate_left
      · intro w' hBw'
        first | (go_simp; done) | (go_simp; with_reducible rfl)
      try simp only [Act.put, List.getElem_toArray, List.getElem_cons_zero, List.getElem_cons_succ, List.setIfInBounds_toArray, List.set_cons_zero, List.set_cons_succ]
      refine pt_q (v := ?_) rfl (by rfl) ?_ ?_
      rotate_left
      · intro w' hBw'
        first | (go_simp; done) | (go_simp; with_reducible rfl)
      try simp only [Act.put, List.getElem_toArray, List.getElem_cons_zero, List.getElem_cons_succ, List.setIfInBounds_toArray, List.set_cons_zero, List.set_cons_succ]
      refine pt_q (v := ?_) rfl (by rfl) ?_ ?_
      rotate_left
      · intro w' hBw'
        first | (go_simp; done) | (go_simp; with_reducible rfl)
      try simp only [Act.put, List.getElem_toArray, List.getElem_cons_zero, List.getElem_cons_succ, List.setIfInBounds_toArray, List.set_cons_zero, List.set_cons_succ]
      refine pt_q (v := ?_) rfl (by rfl) ?_ ?_
      rotate_left
      · intro w' hBw'
        first | (go_simp; done) | (go_simp; with_reducible rfl)
      try simp only [Act.put, List.getElem_toArray, List.getElem_cons_zero, List.getElem_cons_succ, List.setIfInBounds_toArray, List.set_cons_zero, List.set_cons_succ]
      refine pt_q (v := ?_) rfl (by rfl) ?_ ?_
      rotate_left
      · intro w' hBw'
        first | (go_simp; done) | (go_simp; with_reducible rfl)
      try simp only [Act.put, List.getElem_toArray, List.getElem_cons_zero, List.getElem_cons_succ, List.setIfInBounds_toArray, List.set_cons_zero, List.set_cons_succ]
      refine pt_q (v := ?_) rfl (by rfl) ?_ ?_
      rotate_left
      · intro w' hBw'
        first | (go_simp; done) | (go_simp; with_reducible rfl)
      try simp only [Act.put, List.getElem_toArray, List.getElem_cons_zero, List.getElem_cons_succ, List.setIfInBounds_toArray, List.set_cons_zero, List.set_cons_succ]
      refine pt_c ?_
      refine pt_step rfl (by rfl) (fun K hK => ?_)
      go_simp
      refine (dNum_c 4 _).mono ?_
      rintro en w7 ⟨rfl, rfl⟩
      refine hK.out _ _ (But.refl _ _) ?_
      clear hK K
      try simp only [Act.put, List.getElem_toArray, List.getElem_cons_zero, List.getElem_cons_succ, List.setIfInBounds_toArray, List.set_cons_zero, List.set_cons_succ]
      refine pt_q (v := ?_) rfl (by rfl) ?_ ?_
      rotate_left
      · intro w' hBw'
        first | (go_simp; done) | (go_simp; with_reducible rfl)
      try simp only [Act.put, List.getElem_toArray, List.getElem_cons_zero, List.getElem_cons_succ, List.setIfInBounds_toArray, List.set_cons_zero, List.set_cons_succ]
      refine pt_q (v := ?_) rfl (by rfl) ?_ ?_
      rotate_left
      · intro w' hBw'
        first | (go_simp; done) | (go_simp; with_reducible rfl)
      try simp only [Act.put, List.getElem_toArray, List.getElem_cons_zero, List.getElem_cons_succ, List.setIfInBounds_toArray, List.set_cons_zero, List.set_cons_succ]
      refine pt_c ?_
      refine pt_put_row rfl (by rfl) 47 _ _ rfl (w.heap.size + 1 + 1) [(.slice la r.L.length lc), (.slice wa r.W.length wc), (.int .i64 r.armed)] rfl rfl V8.z rfl (by kernel_rfl) rfl (.inr (.inr rfl)) (fun wA hRA hbA => ?_)
      try simp only [Act.put, List.getElem_toArray, List.getElem_cons_zero, List.getElem_cons_succ, List.setIfInBounds_toArray, List.set_cons_zero, List.set_cons_succ]
      refine pt_q (v := ?_) rfl (by rfl) ?_ ?_
      rotate_left
      · intro w' hBw'
        first | (go_simp; done) | (go_simp; with_reducible rfl)
      try simp only [Act.put, List.getElem_toArray, List.getElem_cons_zero, List.getElem_cons_succ, List.setIfInBounds_toArray, List.set_cons_zero, List.set_cons_succ]
      refine pt_done ?_
      have rA0 := hRA.cell (i := 0) rfl
      have rA1 := hRA.cell (i := 1) rfl
      have rA2 := hRA.cell (i := 2) rfl
      go_wp2
      exact bodyPost_ret (v := .tuple #[.agg #[.slice la r.L.length lc, .slice wa r.W.length wc, .int .i64 r.armed], .bool true]) (by simp [results, Try.results20, go_sem, rA0, rA1, rA2]) rfl (V8.fin V8.want HREL.out hbA)
    · have e1 : decide (x.sec < (r.L.length : Int)) = false := decide_eq_false (by omega)
      go_enter Try.func20, Try.ntmps20
      go_wp2_with (first
        | (go_at_call 25; obtain ⟨u4, hD4⟩ := V0.disk; refine (HL.out _ _ hD4).mono ?_; rintro en w4 ⟨rfl, hb4⟩; have V4 := V0.up hb4; have k0 := V4.p.cell (i := 0) (v := .slice la r.L.length lc) rfl; have k3 := V4.c.cell (i := 1) (v := .int .i64 x.sec) rfl; have k4 := V4.c.cell (i := 0) (v := .int .i64 x.what) rfl; have k1 := V4.p.cell (i := 1) (v := .slice wa r.W.length wc) rfl; have k2 := V4.p.cell (i := 2) (v := .int .i64 r.armed) rfl)
        | (go_at_call 16; obtain ⟨u5, hD5⟩ := V4.disk; refine (HRD.out _ _ hD5).mono ?_; rintro en w5 ⟨rfl, hb5⟩; have V6 := V4.up hb5; have m0 := V6.p.cell (i := 0) (v := .slice la r.L.length lc) rfl; have m3 := V6.c.cell (i := 1) (v := .int .i64 x.sec) rfl; have m4 := V6.c.cell (i := 0) (v := .int .i64 x.what) rfl; have m1 := V6.p.cell (i := 1) (v := .slice wa r.W.length wc) rfl; have m2 := V6.p.cell (i := 2) (v := .int .i64 r.armed) rfl))
      refine wp_region_pt (fun i => i = B ∨ i = M ∨ i = w.heap.size + 1 + 1) (.q 0 (.q 1 (.q 2 (.q 3 (.q 4 (.q 5 (.c 6 (.q 7 (.q 8 (.c 9 (.q 10 .done))))))))))) (by kernel_rfl) (by kernel_rfl) (by kernel_rfl) (by decide) (fun _ _ d _ _ h => by cases d <;> exact h) (fun Wd hBd => ?_)
      try simp only [Act.put, List.getElem_toArray, List.getElem_cons_zero, List.getElem_cons_succ, List.setIfInBounds_toArray, List.set_cons_zero, List.set_cons_succ]
      have V8 := V6.up hBd
      have hlD := V8.z.lt
      have qp0 : ∀ w', But (fun i => i = B ∨ i = M ∨ i = w.heap.size + 1 + 1) Wd w' → w'.cell? ⟨w.heap.size, 0, none⟩ = some (.slice la r.L.length lc) := fun w' h => h.cell (V8.p.cell (i := 0) rfl) (by omega)
      have qp1 : ∀ w', But (fun i => i = B ∨ i = M ∨ i = w.heap.size + 1 + 1) Wd w' → w'.cell? ⟨w.heap.size, 1, none⟩ = some (.slice wa r.W.length wc) := fun w' h => h.cell (V8.p.cell (i := 1) rfl) (by omega)
      have qp2 : ∀ w', But (fun i => i = B ∨ i = M ∨ i = w.heap.size + 1 + 1) Wd w' → w'.cell? ⟨w.heap.size, 2, none⟩ = some (.int .i64 r.armed) := fun w' h => h.cell (V8.p.cell (i := 2) rfl) (by omega)
      refine pt_q (v := ?_) rfl (by rfl) ?_ ?_
      rotate_left
      · intro w' hBw'
        first | (go_simp; done) | (go_simp; with_reducible rfl)
      try simp only [Act.put, List.getElem_toArray, List.getElem_cons_zero, List.getElem_cons_succ, List.setIfInBounds_toArray, List.set_cons_zero, List.set_cons_succ]
      refine pt_q (v := ?_) rfl (by rfl) ?_ ?_
      rotate_left
      · intro w' hBw'
        first | (go_simp; done) | (go_simp; with_reducible rfl)
      try simp only [Act.put, List.getElem_toArray, List.getElem_cons_zero, List.getElem_cons_succ, List.setIfInBounds_toArray, List.set_cons_zero, List.set_cons_succ]
      refine pt_q (v := ?_) rfl (by rfl) ?_ ?_
      rotate_left
      · intro w' hBw'
        first | (go_simp; done) | (go_simp; with_reducible rfl)
      try simp only [Act.put, List.getElem_toArray, List.getElem_cons_zero, List.getElem_cons_succ, List.setIfInBounds_toArray, List.set_cons_zero, List.set_cons_succ]
      refine pt_q (v := ?_) rfl (by rfl) ?_ ?_
      rotate_left
      · intro w' hBw'
        first | (go_simp; done) | (go_simp; with_reducible rfl)
      try simp only [Act.put, List.getElem_toArray, List.getElem_cons_zero, List.getElem_cons_succ, List.setIfInBounds_toArray, List.set_cons_zero, List.set_cons_succ]
      refine pt_q (v := ?_) rfl (by rfl) ?_ ?_
      rotate_left
      · intro w' hBw'
        first | (go_simp; done) | (go_simp; with_reducible rfl)
      try simp only [Act.put, List.getElem_toArray, List.getElem_cons_zero, List.getElem_cons_succ, List.setIfInBounds_toArray, List.set_cons_zero, List.set_cons_succ]
      refine pt_q (v := ?_) rfl (by rfl) ?_ ?_
      rotate_left
      · intro w' hBw'
        first | (go_simp; done) | (go_simp; with_reducible rfl)
      try simp only [Act.put, List.getElem_toArray, List.getElem_cons_zero, List.getElem_cons_succ, List.setIfInBounds_toArray, List.set_cons_zero, List.set_cons_succ]
      refine pt_c ?_
      refine pt_step rfl (by rfl) (fun K hK => ?_)
      go_simp
      refine (dNum_c 4 _).mono ?_
      rintro en w7 ⟨rfl, rfl⟩
      refine hK.out _ _ (But.refl _ _) ?_
      clear hK K
      try simp only [Act.put, List.getElem_toArray, List.getElem_cons_zero, List.getElem_cons_succ, List.setIfInBounds_toArray, List.set_cons_zero, List.set_cons_succ]
      refine pt_q (v := ?_) rfl (by rfl) ?_ ?_
      rotate_left
      · intro w' hBw'
        first | (go_simp; done) | (go_simp; with_reducible rfl)
      try simp only [Act.put, List.getElem_toArray, List.getElem_cons_zero, List.getElem_cons_succ, List.setIfInBounds_toArray, List.set_cons_zero, List.set_cons_succ]
      refine pt_q (v := ?_) rfl (by rfl) ?_ ?_
      rotate_left
      · intro w' hBw'
        first | (go_simp; done) | (go_simp; with_reducible rfl)
      try simp only [Act.put, List.getElem_toArray, List.getElem_cons_zero, List.getElem_cons_succ, List.setIfInBounds_toArray, List.set_cons_zero, List.set_cons_succ]
      refine pt_c ?_
      refine pt_put_row rfl (by rfl) 47 _ _ rfl (w.heap.size + 1 + 1) [(.slice la r.L.length lc), (.slice wa r.W.length wc), (.int .i64 r.armed)] rfl rfl V8.z rfl (by kernel_rfl) rfl (.inr (.inr rfl)) (fun wA hRA hbA => ?_)
      try simp only [Act.put, List.getElem_toArray, List.getElem_cons_zero, List.getElem_cons_succ, List.setIfInBounds_toArray, List.set_cons_zero, List.set_cons_succ]
      refine pt_q (v := ?_) rfl (by rfl) ?_ ?_
      rotate_left
      · intro w' hBw'
        first | (go_simp; done) | (go_simp; with_reducible rfl)
      try simp only [Act.put, List.getElem_toArray, List.getElem_cons_zero, List.getElem_cons_succ, List.setIfInBounds_toArray, List.set_cons_zero, List.set_cons_succ]
      refine pt_done ?_
      have rA0 := hRA.cell (i := 0) rfl
      have rA1 := hRA.cell (i := 1) rfl
      have rA2 := hRA.cell (i := 2) rfl
      go_wp2
      exact bodyPost_ret (v := .tuple #[.agg #[.slice la r.L.length lc, .slice wa r.W.length wc, .int .i64 r.armed], .bool true]) (by simp [results, Try.results20, go_sem, rA0, rA1, rA2]) rfl (V8.fin V8.want HREL.out hbA)

set_option maxHeartbeats 1000000 in
set_option maxRecDepth 100000 in
theorem actLies_c (x : Ac) {B M : Nat} {u v : Value} {d : Disk} {r : RDisk} (w : World) (hd : DiskAt w B M u d) (hr : RefAt w v r) (hrel : Rel d r) (hx : AcAt w x) (hw0 : ¬ x.what = 0) (hw2 : ¬ x.what = 2) (hw3 : ¬ x.what = 3) (hw4 : ¬ x.what = 4) (hw1 : ¬ x.what = 1) (k : Nat) (hk : k < r.L.length) (hsk : x.sec = (k : Int)) :
    Calls Try.prog 20 #[.pointer (some ⟨B, 0, none⟩), v, acV x] w (ActP B M r w) := by
  obtain ⟨la, lc, wa, wc, rfl⟩ := hr.apart
  have V0 := DaW.start hd hr hx
  have c0 := V0.c.cell (i := 0) (v := .int .i64 x.what) rfl
  have c1 := V0.c.cell (i := 1) (v := .int .i64 x.sec) rfl
  have c2 := V0.c.cell (i := 2) (v := .int .i64 x.more) rfl
  have c3 := V0.c.cell (i := 3) (v := .int .u8 (x.byte.toNat : Int)) rfl
  have c4 := V0.c.cell (i := 4) (v := .slice x.ka x.kn x.kc) rfl
  have p0 := V0.p.cell (i := 0) (v := .slice la r.L.length lc) rfl
  have p1 := V0.p.cell (i := 1) (v := .slice wa r.W.length wc) rfl
  have p2 := V0.p.cell (i := 2) (v := .int .i64 r.armed) rfl
  have hlow := V0.low
  have d0 : (x.what == 0) = false := by simp [hw0]
  have d2 : (x.what == 2) = false := by simp [hw2]
  have d3 : (x.what == 3) = false := by simp [hw3]
  have d4 : (x.what == 4) = false := by simp [hw4]
  have hoff : offB (k : Int) d.many = false := by
    unfold offB
    rw [hrel.many, decide_eq_false (by omega), decide_eq_false (by omega)]; rfl
  have hkwf := hx.sec_wf
  rw [hsk] at hkwf c1
  have hli := hrel.lies k hk
  have hrd := hrel.read k hk
  obtain ⟨s0, hs0⟩ : ∃ s0, r.L[k] = s0 := ⟨_, rfl⟩
  have hne := sec_ne s0
  have hne2 : (s0.1 == []) = false := by simp [hne]
  obtain ⟨lb, lo, rfl, hcell⟩ := V0.want.ex.elim fun lv h => h.elim fun wv h => by
    have e := h.1
    simp only [Value.agg.injEq, Array.mk.injEq, List.cons.injEq] at e
    have h1 := h.2.1
    rw [← e.1] at h1
    exact h1.cellAt (k := k) (by omega) (by omega)
  rw [List.getElem?_map, List.getElem?_eq_getElem hk, Option.map_some, hs0] at hcell
  have hki : (k : Int) < (r.L.length : Int) := by omega
  have hk0 : (0 : Int) ≤ (k : Int) := by omega
  have e1 : decide (0 ≤ (k : Int)) = true := decide_eq_true hk0
  have e2 : decide ((k : Int) < (r.L.length : Int)) = true := decide_eq_true hki
  have HCELL := Lib.hid hcell
  have d1 : (x.what == 1) = false := by simp [hw1]
  have hL := fun w u (h : DiskAt w B M u d) => dLies_c (k : Int) hkwf w h hoff
  rw [hli, hs0] at hL
  have HL := Lib.hid hL
  clear hL
  have HREL := Lib.hid hrel
  have HSK := Lib.hid hsk
  clear hrel hd hr hx hcell hli hrd hoff hkwf hsk hs0
  go_enter Try.func20, Try.ntmps20
  go_wp2_with (first
    | (go_at_call 25; obtain ⟨u4, hD4⟩ := V0.disk; refine (HL.out _ _ hD4).mono ?_; rintro en w6 hst; obtain ⟨_, rfl, hS4, ⟨bb, rfl, hbb, hG⟩, hb4⟩ := hst.out; have V6 := V0.up hb4; have hc2 := cell_up hb4 HCELL.out; have k0 := V6.p.cell (i := 0) (v := .slice (some ⟨lb, lo, none⟩) r.L.length lc) rfl; have k3 := V6.c.cell (i := 1) (v := .int .i64 (k : Int)) (by rw [← HSK.out]; rfl); have k4 := V6.c.cell (i := 0) (v := .int .i64 x.what) rfl; have k1 := V6.p.cell (i := 1) (v := .slice wa r.W.length wc) rfl; have k2 := V6.p.cell (i := 2) (v := .int .i64 r.armed) rfl; have G6 := Lib.hid hG; have HX := Lib.hid (show w.heap.size + 1 + 1 < bb by have := V0.z.lt; omega); have hcv := run_str (P := Try.prog) Try.underlying33 Try.underlying5 Try.underlying9 hS4)
    | (go_at_call 8; refine (dNum_c 0 _).mono ?_; rintro en w9 ⟨rfl, rfl⟩))
  go_loopw [19] (fun i wr => ∃ (j : Nat) (cs : Array Value), j ≤ 64 ∧ i = .int .i64 j ∧ cs.size = 64 ∧ bytesRow cs ∧ RowAt wr bb cs 76 ∧ But (· = bb) w6 wr) (fun i _ => 64 - (intOf i).toNat)
  case atStart => exact ⟨0, _, Nat.zero_le _, rfl, by rw [List.size_toArray]; exact secC_len _, by8_row _, G6.out, But.refl _ _⟩
  case round =>
    obtain ⟨j, cs, hj, rfl, hcs, hby, hR, hbL⟩ := hrel
    by_cases hlt : j < 64
    · obtain ⟨v, hv⟩ : ∃ v, cs[j]? = some v := ⟨cs[j]'(by omega), Array.getElem?_eq_getElem (by omega)⟩
      obtain ⟨z, rfl⟩ := hby j v hv
      have hc := hR.cell hv
      have hf := hR.fz j
      have hji : (j : Int) < 64 := by omega
      have HR2 := Lib.hid hR
      have HB2 := Lib.hid hbL
      have HBY := Lib.hid hby
      clear hR hbL hby
      go_wp2
      go_roundw
      case rel => exact ⟨j + 1, _, by omega, by go_num, by rw [Array.size_setIfInBounds]; exact hcs, HBY.out.set j _, HR2.out.set j _, HB2.out.trans (But.setCell _ _ _ (.inl rfl))⟩
      case measure => simp [intOf]; omega
    · obtain rfl : j = 64 := by omega
      have V8 := V6.pastB G6.out (by8_row _) HX.out hbL
      have g0 := V8.p.cell (i := 0) rfl
      have g1 := V8.p.cell (i := 1) rfl
      have g2 := V8.p.cell (i := 2) rfl
      go_wp2_with (refine wpList_put_row rfl 47 (.tmp 6) (.tmp 174) rfl (w.heap.size + 1 + 1) [.slice (some ⟨lb, lo, none⟩) r.L.length lc, .slice wa r.W.length wc, .int .i64 r.armed] rfl rfl V8.z rfl (by kernel_rfl) rfl (fun wA hRA hbA => ?_))
      have rA0 := hRA.cell (i := 0) rfl
      have rA1 := hRA.cell (i := 1) rfl
      have rA2 := hRA.cell (i := 2) rfl
      exact bodyPost_ret (v := .tuple #[.agg #[.slice (some ⟨lb, lo, none⟩) r.L.length lc, .slice wa r.W.length wc, .int .i64 r.armed], .bool true]) (by simp [results, Try.results20, go_sem, rA0, rA1, rA2]) rfl (V8.fin V8.want HREL.out hbA)

set_option maxHeartbeats 1000000 in
set_option maxRecDepth 100000 in
theorem actRead_c (x : Ac) {B M : Nat} {u v : Value} {d : Disk} {r : RDisk} (w : World) (hd : DiskAt w B M u d) (hr : RefAt w v r) (hrel : Rel d r) (hx : AcAt w x) (hw0 : ¬ x.what = 0) (hw2 : ¬ x.what = 2) (hw3 : ¬ x.what = 3) (hw4 : ¬ x.what = 4) (hw1 : x.what = 1) (k : Nat) (hk : k < r.L.length) (hsk : x.sec = (k : Int)) :
    Calls Try.prog 20 #[.pointer (some ⟨B, 0, none⟩), v, acV x] w (ActP B M r w) := by
  obtain ⟨la, lc, wa, wc, rfl⟩ := hr.apart
  have V0 := DaW.start hd hr hx
  have c0 := V0.c.cell (i := 0) (v := .int .i64 x.what) rfl
  have c1 := V0.c.cell (i := 1) (v := .int .i64 x.sec) rfl
  have c2 := V0.c.cell (i := 2) (v := .int .i64 x.more) rfl
  have c3 := V0.c.cell (i := 3) (v := .int .u8 (x.byte.toNat : Int)) rfl
  have c4 := V0.c.cell (i := 4) (v := .slice x.ka x.kn x.kc) rfl
  have p0 := V0.p.cell (i := 0) (v := .slice la r.L.length lc) rfl
  have p1 := V0.p.cell (i := 1) (v := .slice wa r.W.length wc) rfl
  have p2 := V0.p.cell (i := 2) (v := .int .i64 r.armed) rfl
  have hlow := V0.low
  have d0 : (x.what == 0) = false := by simp [hw0]
  have d2 : (x.what == 2) = false := by simp [hw2]
  have d3 : (x.what == 3) = false := by simp [hw3]
  have d4 : (x.what == 4) = false := by simp [hw4]
  have hoff : offB (k : Int) d.many = false := by
    unfold offB
    rw [hrel.many, decide_eq_false (by omega), decide_eq_false (by omega)]; rfl
  have hkwf := hx.sec_wf
  rw [hsk] at hkwf c1
  have hli := hrel.lies k hk
  have hrd := hrel.read k hk
  obtain ⟨s0, hs0⟩ : ∃ s0, r.L[k] = s0 := ⟨_, rfl⟩
  have hne := sec_ne s0
  have hne2 : (s0.1 == []) = false := by simp [hne]
  obtain ⟨lb, lo, rfl, hcell⟩ := V0.want.ex.elim fun lv h => h.elim fun wv h => by
    have e := h.1
    simp only [Value.agg.injEq, Array.mk.injEq, List.cons.injEq] at e
    have h1 := h.2.1
    rw [← e.1] at h1
    exact h1.cellAt (k := k) (by omega) (by omega)
  rw [List.getElem?_map, List.getElem?_eq_getElem hk, Option.map_some, hs0] at hcell
  have hki : (k : Int) < (r.L.length : Int) := by omega
  have hk0 : (0 : Int) ≤ (k : Int) := by omega
  have e1 : decide (0 ≤ (k : Int)) = true := decide_eq_true hk0
  have e2 : decide ((k : Int) < (r.L.length : Int)) = true := decide_eq_true hki
  have HCELL := Lib.hid hcell
  have d1 : (x.what == 1) = true := by simp [hw1]
  clear hw1
  have hL := fun w u (h : DiskAt w B M u d) => dLies_c (k : Int) hkwf w h hoff
  rw [hli, hs0] at hL
  have HL := Lib.hid hL
  clear hL
  have hR := fun w u (h : DiskAt w B M u d) => dRead_c (k : Int) hkwf w h hoff
  have hRR := fun v w (h : RefAt w v r) => rRead_c k r hk v w h
  rw [hrd] at hR
  obtain ⟨s1, hs1⟩ : ∃ s1, lastOf (k : Int) r.W r.L[k] = s1 := ⟨_, rfl⟩
  rw [hs1] at hR hRR
  have hne3 := sec_ne s1
  have hne4 : (s1.1 == []) = false := by simp [hne3]
  have HRD := Lib.hid hR
  have HRR := Lib.hid hRR
  clear hR hRR hs1
  have HREL := Lib.hid hrel
  have HSK := Lib.hid hsk
  clear hrel hd hr hx hcell hli hrd hoff hkwf hsk hs0
  go_enter Try.func20, Try.ntmps20
  go_wp2_with (first
    | (go_at_call 25; obtain ⟨u4, hD4⟩ := V0.disk; refine (HL.out _ _ hD4).mono ?_; rintro en w4 hst; obtain ⟨_, rfl, hS3, ⟨bb3, rfl, hbb3, hG3⟩, hb4⟩ := hst.out; have V4 := V0.up hb4; have hc4 := cell_up hb4 HCELL.out; have k0 := V4.p.cell (i := 0) (v := .slice (some ⟨lb, lo, none⟩) r.L.length lc) rfl; have k3 := V4.c.cell (i := 1) (v := .int .i64 (k : Int)) (by rw [← HSK.out]; rfl); have k4 := V4.c.cell (i := 0) (v := .int .i64 x.what) rfl; have k1 := V4.p.cell (i := 1) (v := .slice wa r.W.length wc) rfl; have k2 := V4.p.cell (i := 2) (v := .int .i64 r.armed) rfl)
    | (go_at_call 16; obtain ⟨u5, hD5⟩ := V4.disk; refine (HRD.out _ _ hD5).mono ?_; rintro en w5 hst5; obtain ⟨_, rfl, hS5, ⟨bb, rfl, hbb, hG5⟩, hb5⟩ := hst5.out; have V5 := V4.up hb5; have l0 := V5.p.cell (i := 0) (v := .slice (some ⟨lb, lo, none⟩) r.L.length lc) rfl; have l3 := V5.c.cell (i := 1) (v := .int .i64 (k : Int)) (by rw [← HSK.out]; rfl); have l4 := V5.c.cell (i := 0) (v := .int .i64 x.what) rfl; have l1 := V5.p.cell (i := 1) (v := .slice wa r.W.length wc) rfl; have l2 := V5.p.cell (i := 2) (v := .int .i64 r.armed) rfl)
    | (go_at_call 48; refine (HRR.out (.agg #[.slice (some ⟨lb, lo, none⟩) r.L.length lc, .slice wa r.W.length wc, .int .i64 r.armed]) _ V5.want).mono ?_; rintro en w6 ⟨rfl, hb6⟩; have V6 := V5.up hb6; have hS4 := hS5.up hb6; have hG := RowAt.below hG5 hb6; have m0 := V6.p.cell (i := 0) (v := .slice (some ⟨lb, lo, none⟩) r.L.length lc) rfl; have m3 := V6.c.cell (i := 1) (v := .int .i64 (k : Int)) (by rw [← HSK.out]; rfl); have m4 := V6.c.cell (i := 0) (v := .int .i64 x.what) rfl; have m1 := V6.p.cell (i := 1) (v := .slice wa r.W.length wc) rfl; have m2 := V6.p.cell (i := 2) (v := .int .i64 r.armed) rfl; have G6 := Lib.hid hG; have HX := Lib.hid (show w.heap.size + 1 + 1 < bb by have := V4.z.lt; omega); have hcv := run_str (P := Try.prog) Try.underlying33 Try.underlying5 Try.underlying9 hS4)
    | (go_at_call 8; refine (dNum_c 0 _).mono ?_; rintro en w9 ⟨rfl, rfl⟩))
  go_loopw [19] (fun i wr => ∃ (j : Nat) (cs : Array Value), j ≤ 64 ∧ i = .int .i64 j ∧ cs.size = 64 ∧ bytesRow cs ∧ RowAt wr bb cs 76 ∧ But (· = bb) w6 wr) (fun i _ => 64 - (intOf i).toNat)
  case atStart => exact ⟨0, _, Nat.zero_le _, rfl, by rw [List.size_toArray]; exact secC_len _, by8_row _, G6.out, But.refl _ _⟩
  case round =>
    obtain ⟨j, cs, hj, rfl, hcs, hby, hR, hbL⟩ := hrel
    by_cases hlt : j < 64
    · obtain ⟨v, hv⟩ : ∃ v, cs[j]? = some v := ⟨cs[j]'(by omega), Array.getElem?_eq_getElem (by omega)⟩
      obtain ⟨z, rfl⟩ := hby j v hv
      have hc := hR.cell hv
      have hf := hR.fz j
      have hji : (j : Int) < 64 := by omega
      have HR2 := Lib.hid hR
      have HB2 := Lib.hid hbL
      have HBY := Lib.hid hby
      clear hR hbL hby
      go_wp2
      go_roundw
      case rel => exact ⟨j + 1, _, by omega, by go_num, by rw [Array.size_setIfInBounds]; exact hcs, HBY.out.set j _, HR2.out.set j _, HB2.out.trans (But.setCell _ _ _ (.inl rfl))⟩
      case measure => simp [intOf]; omega
    · obtain rfl : j = 64 := by omega
      have V8 := V6.pastB G6.out (by8_row _) HX.out hbL
      have g0 := V8.p.cell (i := 0) rfl
      have g1 := V8.p.cell (i := 1) rfl
      have g2 := V8.p.cell (i := 2) rfl
      go_wp2_with (refine wpList_put_row rfl 47 (.tmp 6) (.tmp 174) rfl (w.heap.size + 1 + 1) [.slice (some ⟨lb, lo, none⟩) r.L.length lc, .slice wa r.W.length wc, .int .i64 r.armed] rfl rfl V8.z rfl (by kernel_rfl) rfl (fun wA hRA hbA => ?_))
      have rA0 := hRA.cell (i := 0) rfl
      have rA1 := hRA.cell (i := 1) rfl
      have rA2 := hRA.cell (i := 2) rfl
      exact bodyPost_ret (v := .tuple #[.agg #[.slice (some ⟨lb, lo, none⟩) r.L.length lc, .slice wa r.W.length wc, .int .i64 r.armed], .bool true]) (by simp [results, Try.results20, go_sem, rA0, rA1, rA2]) rfl (V8.fin V8.want HREL.out hbA)

/-- act: both tell the same, and stand the same. -/
theorem act_c (x : Ac) {B M : Nat} {u v : Value} {d : Disk} {r : RDisk} (w : World) (hd : DiskAt w B M u d) (hr : RefAt w v r) (hrel : Rel d r) (hx : AcAt w x) (hWn : r.W.length ≤ 100000) (hok : acOk x = true) :
    Calls Try.prog 20 #[.pointer (some ⟨B, 0, none⟩), v, acV x] w (ActP B M (stepR r x) w) := by
  unfold stepR
  by_cases h0 : x.what = 0
  · rw [if_pos h0]
    by_cases hm : 0 < x.more
    · rw [if_pos hm]
      refine actWrite1_c x w hd hr hrel hx h0 hWn hm ?_
      unfold acOk at hok
      simp [h0] at hok
      omega
    · rw [if_neg hm]
      exact actWrite0_c x w hd hr hrel hx h0 hWn hm
  · rw [if_neg h0]
    by_cases h2 : x.what = 2
    · rw [if_pos h2]
      exact actSync_c x w hd hr hrel hx h2
    · rw [if_neg h2]
      by_cases h3 : x.what = 3
      · rw [if_pos h3]
        exact actCrash_c x w hd hr hrel hx h3
      · rw [if_neg h3]
        by_cases h4 : x.what = 4
        · rw [if_pos h4]
          exact actArm_c x w hd hr hrel hx h4
        · rw [if_neg h4]
          cases ho : offB x.sec d.many with
          | true => exact actOff_c x w hd hr hrel hx h0 h2 h3 h4 ho
          | false =>
            have hr2 : 0 ≤ x.sec ∧ x.sec < (r.L.length : Int) := by
              unfold offB at ho
              rw [Bool.or_eq_false_iff, decide_eq_false_iff_not, decide_eq_false_iff_not, hrel.many] at ho
              omega
            obtain ⟨k, hk⟩ : ∃ k : Nat, x.sec = (k : Int) := ⟨x.sec.toNat, by omega⟩
            by_cases h1 : x.what = 1
            · exact actRead_c x w hd hr hrel hx h0 h2 h3 h4 h1 k (by omega) hk
            · exact actLies_c x w hd hr hrel hx h0 h2 h3 h4 h1 k (by omega) hk
end Go.Proofs.Ytekpjbablcoahaa
