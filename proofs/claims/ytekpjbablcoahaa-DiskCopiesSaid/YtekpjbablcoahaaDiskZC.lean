/-
  The law's act: is.
-/
import Derived.Test.YtekpjbablcoahaaDiskZB
import Derived.Test.YtekpjbablcoahaaTurn
namespace Go.Proofs.Ytekpjbablcoahaa
open Go.RowKit Go.Maps Dk
set_option linter.unusedSimpArgs false
set_option linter.unusedVariables false
attribute [local go_sem] Oper.semAt_some
/-- What is has at hand. -/
structure IdW (w w1 : World) (B M : Nat) (d : Disk) (la : Option Addr) (lc : Nat) (wa : Option Addr) (wc : Nat) (r : RDisk) : Prop where
  below : Below w.heap.size w w1
  p : RowAt w1 w.heap.size #[.slice la r.L.length lc, .slice wa r.W.length wc, .int .i64 r.armed] 47
  z : RowAt w1 (w.heap.size + 1) #[.bool false] 4
  disk : ∃ u, DiskAt w1 B M u d
  want : RefAt w1 (.agg #[.slice la r.L.length lc, .slice wa r.W.length wc, .int .i64 r.armed]) r
theorem IdW.up {w w1 w2 : World} {B M : Nat} {d : Disk} {la wa : Option Addr} {lc wc : Nat} {r : RDisk} (h : IdW w w1 B M d la lc wa wc r) (hb : Below w1.heap.size w1 w2) : IdW w w2 B M d la lc wa wc r :=
  ⟨below_up h.below hb, h.p.below hb, h.z.below hb, h.disk.imp fun _ hd => hd.below hb, h.want.up hb⟩
theorem IdW.start {w : World} {B M : Nat} {u : Value} {d : Disk} {la wa : Option Addr} {lc wc : Nat} {r : RDisk} (hd : DiskAt w B M u d) (hr : RefAt w (.agg #[.slice la r.L.length lc, .slice wa r.W.length wc, .int .i64 r.armed]) r) : IdW w ((w.alloc (.cells #[.slice la r.L.length lc, .slice wa r.W.length wc, .int .i64 r.armed] 47)).alloc (.cells #[.bool false] 4)) B M d la lc wa wc r := by
  have hB2 : Below w.heap.size w ((w.alloc (.cells #[.slice la r.L.length lc, .slice wa r.W.length wc, .int .i64 r.armed] 47)).alloc (.cells #[.bool false] 4)) := (below_alloc w _).alloc (by simp) _
  have h2 := RowAt.new (w.alloc (.cells #[.slice la r.L.length lc, .slice wa r.W.length wc, .int .i64 r.armed] 47)) #[.bool false] 4
  rw [World.size_alloc] at h2
  exact ⟨hB2, (RowAt.new w _ _).below (below_alloc _ _), h2, ⟨u, hd.below hB2⟩, hr.up hB2⟩
set_option maxHeartbeats 2000000 in
set_option maxRecDepth 100000 in
theorem is_c {B M : Nat} {u v : Value} {d : Disk} {r : RDisk} (w : World) (hd : DiskAt w B M u d) (hr : RefAt w v r) (hrel : Rel d r) (hWn : r.W.length ≤ 100000) :
    Calls Try.prog 21 #[.pointer (some ⟨B, 0, none⟩), v] w (Ret (.bool true) w) := by
  obtain ⟨la, lc, wa, wc, rfl⟩ := hr.apart
  have V0 := IdW.start hd hr
  have HREL := Lib.hid hrel
  clear hd hr hrel
  have he : ∀ (f : FuncId) (caps : Array Value) (w : World), (binOp BinOp.eql 59 (.func (.func f) #[] caps) .nilFunc).run Try.prog w = .ok (.bool false) w := fun _ _ _ => by kernel_rfl
  refine (callsIn_wide (n := 3)).1 ?_
  refine callsIn_of_wp_marks Try.func21 rfl trivial ?_ rfl
  simp only [Try.ntmps21, List.size_toArray, List.length_cons, List.length_nil, Nat.reduceAdd, Nat.reduceSub, Array.replicate_succ, Array.replicate_zero, List.push_toArray, List.append_toArray, List.nil_append, List.cons_append]
  refine wpIn_wide.2 ?_
  go_wp2
  go_loopw [5] (fun i wr => ∃ k : Nat, k ≤ r.L.length ∧ i = .int .i64 k ∧ IdW w wr B M d la lc wa wc r) (fun i _ => r.L.length - (intOf i).toNat)
  case atStart => exact ⟨0, Nat.zero_le _, rfl, V0⟩
  case round =>
    clear V0
    obtain ⟨k, hk, rfl, V⟩ := hrel
    have hfew := HREL.out.few
    have c0 := V.p.cell (i := 0) (v := .slice la r.L.length lc) rfl
    by_cases hlt : k < r.L.length
    · have hki : (k : Int) < (r.L.length : Int) := by omega
      have hoff : offB (k : Int) d.many = false := by
        unfold offB
        rw [HREL.out.many, decide_eq_false (by omega), decide_eq_false (by omega)]; rfl
      have hkwf : (Lit.int .i64 (k : Int)).wf = true := by
        have := HREL.out.few
        simp [Lit.wf, IntKind.min, IntKind.max, IntKind.signed, IntKind.bits]; omega
      have hL := fun w u (h : DiskAt w B M u d) => dLies_c (k : Int) hkwf w h hoff
      have hR := fun w u (h : DiskAt w B M u d) => dRead_c (k : Int) hkwf w h hoff
      have hRR := fun v w (h : RefAt w v r) => rRead_c k r hlt v w h
      rw [HREL.out.lies k hlt] at hL
      rw [HREL.out.read k hlt] at hR
      obtain ⟨s0, hs0⟩ : ∃ s0, r.L[k] = s0 := ⟨_, rfl⟩
      obtain ⟨s1, hs1⟩ : ∃ s1, lastOf (k : Int) r.W r.L[k] = s1 := ⟨_, rfl⟩
      rw [hs1] at hR hRR
      rw [hs0] at hL
      obtain ⟨lb, lo, rfl, hcell⟩ := V.want.ex.elim fun lv h => h.elim fun wv h => by
        have e := h.1
        simp only [Value.agg.injEq, Array.mk.injEq, List.cons.injEq] at e
        have h1 := h.2.1
        rw [← e.1] at h1
        exact h1.cellAt (k := k) (by omega) (by omega)
      rw [List.getElem?_map, List.getElem?_eq_getElem hlt, Option.map_some, hs0] at hcell
      have HL := Lib.hid hL
      have HR := Lib.hid hR
      have HRR := Lib.hid hRR
      have HCELL := Lib.hid hcell
      clear hL hR hRR hcell hs0 hs1 hoff hkwf
      go_wp2_with (first
        | (go_at_call 25; obtain ⟨u4, hD4⟩ := V.disk; refine (HL.out _ _ hD4).mono ?_; rintro en w4 hst; obtain ⟨_, rfl, hS4, ⟨b4, rfl, _, _⟩, hb4⟩ := hst.out; have V4 := V.up hb4)
        | (go_at_call 16; obtain ⟨u5, hD5⟩ := V4.disk; refine (HR.out _ _ hD5).mono ?_; rintro en w5 hst5; obtain ⟨_, rfl, hS5, ⟨b5, rfl, _, _⟩, hb5⟩ := hst5.out; have V5 := V4.up hb5))
      refine wp_onlyN (wp_region_pt (fun _ => False) (.q 0 (.q 1 (.q 2 (.q 3 (.q 4 (.q 5 (.q 6 (.q 7 (.q 8 (.q 9 (.q 10 (.q 11 (.q 12 (.c 13 (.q 14 (.q 15 (.q 16 (.q 17 (.q 19 (.c 18 (.c 20 (.q 21 (.q 22 (.q 23 .done)))))))))))))))))))))))) (by kernel_rfl) (by kernel_rfl) (by kernel_rfl) (by decide) onlyN_panic (fun Wd hBd => ?_))
      try simp only [Act.put, List.getElem_toArray, List.getElem_cons_zero, List.getElem_cons_succ, List.setIfInBounds_toArray, List.set_cons_zero, List.set_cons_succ]
      have V8 := V5.up hBd
      have T4 := (hS4.up hb5).up hBd
      have T5 := hS5.up hBd
      have C8 := cell_up hBd (cell_up hb5 (cell_up hb4 HCELL.out))
      have qt : ∀ w', But (fun _ => False) Wd w' → Below Wd.heap.size Wd w' := fun w' h => h.below (fun k e => e.elim) (Nat.le_refl _)
      have q4 : ∀ w', But (fun _ => False) Wd w' → (convert 33 9 (.slice (some ⟨b4, 0, none⟩) 64 64)).run Try.prog w' = .ok (strV s0) w' := fun w' h => run_str (P := Try.prog) Try.underlying33 Try.underlying5 Try.underlying9 (T4.up (qt w' h))
      have q5 : ∀ w', But (fun _ => False) Wd w' → (convert 33 9 (.slice (some ⟨b5, 0, none⟩) 64 64)).run Try.prog w' = .ok (strV s1) w' := fun w' h => run_str (P := Try.prog) Try.underlying33 Try.underlying5 Try.underlying9 (T5.up (qt w' h))
      have qc : ∀ w', But (fun _ => False) Wd w' → w'.cell? ⟨lb, lo + k, none⟩ = some (strV s0) := fun w' h => cell_up (qt w' h) C8
      have qp0 : ∀ w', But (fun _ => False) Wd w' → w'.cell? ⟨w.heap.size, 0, none⟩ = some (.slice (some ⟨lb, lo, none⟩) r.L.length lc) := fun w' h => cell_up (qt w' h) (V8.p.cell (i := 0) rfl)
      have qp1 : ∀ w', But (fun _ => False) Wd w' → w'.cell? ⟨w.heap.size, 1, none⟩ = some (.slice wa r.W.length wc) := fun w' h => cell_up (qt w' h) (V8.p.cell (i := 1) rfl)
      have qp2 : ∀ w', But (fun _ => False) Wd w' → w'.cell? ⟨w.heap.size, 2, none⟩ = some (.int .i64 r.armed) := fun w' h => cell_up (qt w' h) (V8.p.cell (i := 2) rfl)
      refine pt_q (v := ?_) rfl (by rfl) ?_ ?_
      rotate_left
      · intro w' hBw'
        first | (go_simp; done) | (go_simp; with_reducible rfl)
      try simp only [Act.put, List.getElem_toArray, List.getElem_cons_zero, List.getElem_cons_succ, List.setIfInBounds_toArray, List.set_cons_zero, List.set_cons_succ]
      refine pt_q (v := ?_) rfl (by rfl) ?_ ?_
      rotate_left
      · intro w' hBw'
        first | (go_simp; done) | (go_simp; with_reducible rfl)
      try simp only [Act.put, List.getElem_toArray, List.getElem_cons_zero, List.getElem_cons_succ, List.setIfInBounds_toArray, List.set_cons_zero, List.set_cons_succ]
      refine pt_q (v := ?_) rfl (by rfl) ?_ ?_
      rotate_left
      · intro w' hBw'
        first | (go_simp; done) | (go_simp; with_reducible rfl)
      try simp only [Act.put, List.getElem_toArray, List.getElem_cons_zero, List.getElem_cons_succ, List.setIfInBounds_toArray, List.set_cons_zero, List.set_cons_succ]
      refine pt_q (v := ?_) rfl (by rfl) ?_ ?_
      rotate_left
      · intro w' hBw'
        first | (go_simp; done) | (go_simp; with_reducible rfl)
      try simp only [Act.put, List.getElem_toArray, List.getElem_cons_zero, List.getElem_cons_succ, List.setIfInBounds_toArray, List.set_cons_zero, List.set_cons_succ]
      refine pt_q (v := ?_) rfl (by rfl) ?_ ?_
      rotate_left
      · intro w' hBw'
        first | (go_simp; done) | (go_simp; with_reducible rfl)
      try simp only [Act.put, List.getElem_toArray, List.getElem_cons_zero, List.getElem_cons_succ, List.setIfInBounds_toArray, List.set_cons_zero, List.set_cons_succ]
      refine pt_q (v := ?_) rfl (by rfl) ?_ ?_
      rotate_left
      · intro w' hBw'
        first | (go_simp; done) | (go_simp; with_reducible rfl)
      try simp only [Act.put, List.getElem_toArray, List.getElem_cons_zero, List.getElem_cons_succ, List.setIfInBounds_toArray, List.set_cons_zero, List.set_cons_succ]
      refine pt_q (v := ?_) rfl (by rfl) ?_ ?_
      rotate_left
      · intro w' hBw'
        first | (go_simp; done) | (go_simp; with_reducible rfl)
      try simp only [Act.put, List.getElem_toArray, List.getElem_cons_zero, List.getElem_cons_succ, List.setIfInBounds_toArray, List.set_cons_zero, List.set_cons_succ]
      refine pt_q (v := ?_) rfl (by rfl) ?_ ?_
      rotate_left
      · intro w' hBw'
        first | (go_simp; done) | (go_simp; with_reducible rfl)
      try simp only [Act.put, List.getElem_toArray, List.getElem_cons_zero, List.getElem_cons_succ, List.setIfInBounds_toArray, List.set_cons_zero, List.set_cons_succ]
      refine pt_q (v := ?_) rfl (by rfl) ?_ ?_
      rotate_left
      · intro w' hBw'
        first | (go_simp; done) | (go_simp; with_reducible rfl)
      try simp only [Act.put, List.getElem_toArray, List.getElem_cons_zero, List.getElem_cons_succ, List.setIfInBounds_toArray, List.set_cons_zero, List.set_cons_succ]
      refine pt_q (v := ?_) rfl (by rfl) ?_ ?_
      rotate_left
      · intro w' hBw'
        first | (go_simp; done) | (go_simp; with_reducible rfl)
      try simp only [Act.put, List.getElem_toArray, List.getElem_cons_zero, List.getElem_cons_succ, List.setIfInBounds_toArray, List.set_cons_zero, List.set_cons_succ]
      refine pt_q (v := ?_) rfl (by rfl) ?_ ?_
      rotate_left
      · intro w' hBw'
        first | (go_simp; done) | (go_simp; with_reducible rfl)
      try simp only [Act.put, List.getElem_toArray, List.getElem_cons_zero, List.getElem_cons_succ, List.setIfInBounds_toArray, List.set_cons_zero, List.set_cons_succ]
      refine pt_q (v := ?_) rfl (by rfl) ?_ ?_
      rotate_left
      · intro w' hBw'
        first | (go_simp; done) | (go_simp; with_reducible rfl)
      try simp only [Act.put, List.getElem_toArray, List.getElem_cons_zero, List.getElem_cons_succ, List.setIfInBounds_toArray, List.set_cons_zero, List.set_cons_succ]
      refine pt_q (v := ?_) rfl (by rfl) ?_ ?_
      rotate_left
      · intro w' hBw'
        first | (go_simp; done) | (go_simp; with_reducible rfl)
      try simp only [Act.put, List.getElem_toArray, List.getElem_cons_zero, List.getElem_cons_succ, List.setIfInBounds_toArray, List.set_cons_zero, List.set_cons_succ]
      refine pt_c ?_
      refine pt_step rfl (by rfl) (fun K hK => ?_)
      go_simp
      refine (HRR.out (.agg #[.slice (some ⟨lb, lo, none⟩) r.L.length lc, .slice wa r.W.length wc, .int .i64 r.armed]) Wd V8.want).mono ?_
      rintro en w9 ⟨rfl, hb9⟩
      have V9 := V8.up hb9
      refine hK.out _ _ (But.of_below hb9) ?_
      clear hK K
      try simp only [Act.put, List.getElem_toArray, List.getElem_cons_zero, List.getElem_cons_succ, List.setIfInBounds_toArray, List.set_cons_zero, List.set_cons_succ]
      refine pt_q (v := ?_) rfl (by rfl) ?_ ?_
      rotate_left
      · intro w' hBw'
        first | (go_simp; done) | (go_simp; with_reducible rfl)
      try simp only [Act.put, List.getElem_toArray, List.getElem_cons_zero, List.getElem_cons_succ, List.setIfInBounds_toArray, List.set_cons_zero, List.set_cons_succ]
      refine pt_q (v := ?_) rfl (by rfl) ?_ ?_
      rotate_left
      · intro w' hBw'
        first | (go_simp; done) | (go_simp; with_reducible rfl)
      try simp only [Act.put, List.getElem_toArray, List.getElem_cons_zero, List.getElem_cons_succ, List.setIfInBounds_toArray, List.set_cons_zero, List.set_cons_succ]
      refine pt_q (v := ?_) rfl (by rfl) ?_ ?_
      rotate_left
      · intro w' hBw'
        first | (go_simp; done) | (go_simp; with_reducible rfl)
      try simp only [Act.put, List.getElem_toArray, List.getElem_cons_zero, List.getElem_cons_succ, List.setIfInBounds_toArray, List.set_cons_zero, List.set_cons_succ]
      refine pt_q (v := ?_) rfl (by rfl) ?_ ?_
      rotate_left
      · intro w' hBw'
        first | (go_simp; done) | (go_simp; with_reducible rfl)
      try simp only [Act.put, List.getElem_toArray, List.getElem_cons_zero, List.getElem_cons_succ, List.setIfInBounds_toArray, List.set_cons_zero, List.set_cons_succ]
      refine pt_q (v := ?_) rfl (by rfl) ?_ ?_
      rotate_left
      · intro w' hBw'
        first | (go_simp; done) | (go_simp; with_reducible rfl)
      try simp only [Act.put, List.getElem_toArray, List.getElem_cons_zero, List.getElem_cons_succ, List.setIfInBounds_toArray, List.set_cons_zero, List.set_cons_succ]
      refine pt_c ?_
      refine pt_step rfl (by rfl) (fun K hK => ?_)
      go_simp
      refine (dNum_c 0 _).mono ?_
      rintro en w7 ⟨rfl, rfl⟩
      refine hK.out _ _ (But.refl _ _) ?_
      clear hK K
      try simp only [Act.put, List.getElem_toArray, List.getElem_cons_zero, List.getElem_cons_succ, List.setIfInBounds_toArray, List.set_cons_zero, List.set_cons_succ]
      refine pt_c ?_
      refine pt_step rfl (by rfl) (fun K hK => ?_)
      go_simp
      refine (dNum_c 0 _).mono ?_
      rintro en w7 ⟨rfl, rfl⟩
      refine hK.out _ _ (But.refl _ _) ?_
      clear hK K
      try simp only [Act.put, List.getElem_toArray, List.getElem_cons_zero, List.getElem_cons_succ, List.setIfInBounds_toArray, List.set_cons_zero, List.set_cons_succ]
      refine pt_q (v := ?_) rfl (by rfl) ?_ ?_
      rotate_left
      · intro w' hBw'
        first | (go_simp; done) | (go_simp; with_reducible rfl)
      try simp only [Act.put, List.getElem_toArray, List.getElem_cons_zero, List.getElem_cons_succ, List.setIfInBounds_toArray, List.set_cons_zero, List.set_cons_succ]
      refine pt_q (v := ?_) rfl (by rfl) ?_ ?_
      rotate_left
      · intro w' hBw'
        first | (go_simp; done) | (go_simp; with_reducible rfl)
      try simp only [Act.put, List.getElem_toArray, List.getElem_cons_zero, List.getElem_cons_succ, List.setIfInBounds_toArray, List.set_cons_zero, List.set_cons_succ]
      refine pt_q (v := ?_) rfl (by rfl) ?_ ?_
      rotate_left
      · intro w' hBw'
        first | (go_simp; done) | (go_simp; with_reducible rfl)
      try simp only [Act.put, List.getElem_toArray, List.getElem_cons_zero, List.getElem_cons_succ, List.setIfInBounds_toArray, List.set_cons_zero, List.set_cons_succ]
      refine pt_doneN ?_
      have HV := Lib.hid V9
      clear V9 V8 V5 V4 V qt q4 q5 qc qp0 qp1 qp2 T4 T5 C8 hS4 hS5 HCELL
      go_wp2
      go_roundw
      case rel => exact ⟨k + 1, by omega, by go_num, HV.out⟩
      case measure => simp [intOf]; omega
    · obtain rfl : k = r.L.length := by omega
      have hno := Lib.hid True.intro
      go_wp2_with (first
        | (go_at_call 23; have Tz := hno; clear Tz hno; have V1 := V.up (below_alloc wr (.cells #[.int .i64 0] 3)); obtain ⟨u1, hD1⟩ := V1.disk; refine (dWaitsP_c _ hD1).mono ?_; rintro en w2 ⟨rfl, _, hb2, hz2⟩; have V2 := V1.up hb2)
        | (go_at_call 23; obtain ⟨u2, hD2⟩ := V2.disk; refine (dWaitsP_c _ hD2).mono ?_; rintro en w3 ⟨rfl, hP3, hb3, hz3⟩; have V3 := V2.up hb3))
      have hz2' := hz2
      have hz3' := hz3
      simp only [World.size_alloc] at hz2'
      rw [hz2'] at hz3' hP3
      have hbl := hP3.sl.blk (by decide)
      have hLn : d.W.length = r.W.length := by rw [HREL.out.waits]
      have HV := Lib.hid V
      have hR0 : CtR wr 0 (· = wr.heap.size) w3 := ((CtR.start wr).up hb2).up hb3
      have hap := hP3.sl.apart65 hR0.cnt (by simp)
      have hz1 := V.z.lt
      have hpl := V.p.lt
      clear V V1 V2 V3 hD1 hD2 hb2 hb3 hz2 hz3
      refine wpIn_wide.1 (wp_range (n := 3) (S := fun q => q = wr.heap.size + 1 + 1 ∨ (0 < d.W.length ∧ u2.ownBlock = some q)) (gf := 49) (lb := #[.pointer (some ⟨wr.heap.size + 1 + 1, 0, none⟩)]) rfl dEnters_wt1
        (waits1_x d.W _ d.W.length u2 _ _ hP3 ⟨.inl rfl, (Nat.eq_zero_or_pos d.W.length).elim .inl fun h => .inr fun k hk => .inr ⟨h, hk⟩⟩) (Below.refl _ _) (fun _ => rfl)
        (fun q => q = wr.heap.size) (fun k h => by omega) ?hS
        (fun q G W3 => CtR wr q G W3)
        (fun q a' G W3 => a' = { tmps := #[.pointer (some ⟨B, 0, none⟩), .agg #[.slice la r.L.length lc, .slice wa r.W.length wc, .int .i64 r.armed], undef, .pointer (some ⟨w.heap.size, 0, none⟩), .pointer (some ⟨w.heap.size + 1, 0, none⟩), .int .i64 (r.L.length : Int), u6, u7, u8, u9, .pointer (some ⟨wr.heap.size, 0, none⟩), .int .i64 (q : Int), .int .i64 (ptAt d.W q).1, .int .i64 (r.L.length : Int), .pointer (some ⟨w.heap.size, 0, none⟩), .slice la r.L.length lc, .int .i64 (r.L.length : Int), .bool false, u18, u19, u20, u21, u22, u23, u24, u25, u26, u27, u28, u29, u30, u31, u32, u33, u34, u35, u36, u37, u38, u39, u40, u41, u42, u43, u44, u45, u46, u47, u48, u49, u50, u51, u52, u53, u54, u55, .pointer (some ⟨B, 0, none⟩), .func (.func 49) #[] #[.pointer (some ⟨wr.heap.size + 1, 0, none⟩)], .bool false, .pointer (some ⟨B, 0, none⟩), .func (.func 49) #[] #[.pointer (some ⟨wr.heap.size + 1 + 1, 0, none⟩)], .int .i64 (q : Int), .int .i64 (ptAt d.W q).1, undef, undef, undef, undef, undef, undef, undef, undef, undef, undef, undef, undef, undef, undef, undef, undef, undef, undef, undef, undef, undef, undef, undef, undef, undef, undef, undef, undef, undef, undef, undef, undef, undef, undef, undef], defers := [] } ∧ CtR wr q G W3)
        (fun c q G W3 => False)
        ?abI ?abM ?abX hR0 ?assign ?body ?done (fun D c q G W hD hGD hq h => h.elim))
      case hS =>
        rintro q (rfl | ⟨hp, hq⟩)
        · exact ⟨by omega, by omega⟩
        · rcases hbl with h | h
          · omega
          · have := h q hq
            refine ⟨by omega, fun e => ?_⟩
            rcases hap with h1 | h1
            · omega
            · exact h1 q hq e
      case abI => exact fun q G A B h hb => CtR.abide (by omega) G A B h hb
      case abM => exact fun q a' G A B h hb => ⟨h.1, CtR.abide (by omega) G A B h.2 hb⟩
      case abX => exact fun c q G A B h hb => h.elim
      case assign =>
        intro l2 q G W3 K3 hq hi hK3
        simp only [waitArgs]
        gi_wp2
        refine hK3 _ _ (But.refl _ _) ⟨rfl, ?_⟩
        rw [newG_same rfl]; exact hi
      case body =>
        rintro l2 q a' G W3 hq hl2 _ hGl ⟨rfl, hR⟩
        have V3 := HV.out.up hR.below
        obtain ⟨lv, wv, he1, _, hs2⟩ := V3.want.ex
        simp only [Value.agg.injEq, Array.mk.injEq, List.cons.injEq] at he1
        obtain ⟨rfl, rfl, _⟩ := he1
        have hq' : q < r.W.length := by omega
        obtain ⟨b, off, rfl, hr⟩ := hs2.rec_at (cells := rpC) (sz := 2) (fun _ => rfl) hq' hq'
        have hpe : (ptAt d.W q).1 = r.W[q].1 := by rw [HREL.out.waits, ptAt_get hq']
        rw [hpe]
        generalize r.W[q] = e at *
        have r0 := hr 0 (.int .i64 e.1) rfl
        simp only [Nat.add_zero] at r0
        have Hstep := Lib.hid hR.stepQ
        have hqi : (q : Int) < (r.W.length : Int) := by omega
        have hqn : ¬ (r.W.length : Int) ≤ (q : Int) := by omega
        have p1 := V3.p.cell (i := 1) (v := .slice (some ⟨b, off, none⟩) r.W.length wc) rfl
        have a1 := hR.cnt.cell (i := 0) rfl
        have f1 := hR.cnt.fz 0
        have hq9 : (q : Int) ≤ 100000 := by omega
        clear hr hR V3 hs2 hpe
        gi_wp2
        exact ⟨Hstep.out.1, Hstep.out.2⟩
      case done =>
        rintro D G W3 hD hGD hR hKD
        have V3 := HV.out.up hR.below
        have hcn : RowAt W3 wr.heap.size #[.int .i64 (r.W.length : Nat)] 3 := hLn ▸ hR.cnt
        have hDl : w.heap.size + 1 < D := by omega
        have cn := hcn.cell (i := 0) rfl
        have cp1 := V3.p.cell (i := 1) (v := .slice wa r.W.length wc) rfl
        have hlen := fun w u (h : DiskAt w B M u d) => dLen_c w h
        rw [HREL.out.many] at hlen
        have HLEN := Lib.hid hlen
        clear hlen hR hP3
        go_wp2
        refine wp_onlyN (wp_region_pz (fun _ => False) 13 (.q 0 (.q 1 (.q 2 (.q 3 (.q 4 (.q 5 (.q 6 (.q 8 (.q 9 (.q 10 (.c 7 (.q 11 (.q 12 .done))))))))))))) (by kernel_rfl) (by kernel_rfl) (by kernel_rfl) (by decide) onlyN_panic (fun Wd hBd => ?_))
        try simp only [Act.put, List.getElem_toArray, List.getElem_cons_zero, List.getElem_cons_succ, List.setIfInBounds_toArray, List.set_cons_zero, List.set_cons_succ]
        have V8 := V3.up hBd
        have hn8 := hcn.below hBd
        have z0 := V8.z.cell (i := 0) (v := .bool false) rfl
        have zf := V8.z.fz 0
        have qt : ∀ w', But (fun _ => False) Wd w' → Below Wd.heap.size Wd w' := fun w' h => h.below (fun k e => e.elim) (Nat.le_refl _)
        have qn : ∀ w', But (fun _ => False) Wd w' → w'.cell? ⟨wr.heap.size, 0, none⟩ = some (.int .i64 (r.W.length : Nat)) := fun w' h => cell_up (qt w' h) (hn8.cell (i := 0) rfl)
        have qp0 : ∀ w', But (fun _ => False) Wd w' → w'.cell? ⟨w.heap.size, 0, none⟩ = some (.slice la r.L.length lc) := fun w' h => cell_up (qt w' h) (V8.p.cell (i := 0) rfl)
        have qp1 : ∀ w', But (fun _ => False) Wd w' → w'.cell? ⟨w.heap.size, 1, none⟩ = some (.slice wa r.W.length wc) := fun w' h => cell_up (qt w' h) (V8.p.cell (i := 1) rfl)
        obtain ⟨u8, hD8⟩ := V8.disk
        refine pt_q (v := ?_) rfl (by rfl) ?_ ?_
        rotate_left
        · intro w' hBw'
          first | (go_simp; done) | (go_simp; with_reducible rfl)
        try simp only [Act.put, List.getElem_toArray, List.getElem_cons_zero, List.getElem_cons_succ, List.setIfInBounds_toArray, List.set_cons_zero, List.set_cons_succ]
        refine pt_q (v := ?_) rfl (by rfl) ?_ ?_
        rotate_left
        · intro w' hBw'
          first | (go_simp; done) | (go_simp; with_reducible rfl)
        try simp only [Act.put, List.getElem_toArray, List.getElem_cons_zero, List.getElem_cons_succ, List.setIfInBounds_toArray, List.set_cons_zero, List.set_cons_succ]
        refine pt_q (v := ?_) rfl (by rfl) ?_ ?_
        rotate_left
        · intro w' hBw'
          first | (go_simp; done) | (go_simp; with_reducible rfl)
        try simp only [Act.put, List.getElem_toArray, List.getElem_cons_zero, List.getElem_cons_succ, List.setIfInBounds_toArray, List.set_cons_zero, List.set_cons_succ]
        refine pt_q (v := ?_) rfl (by rfl) ?_ ?_
        rotate_left
        · intro w' hBw'
          first | (go_simp; done) | (go_simp; with_reducible rfl)
        try simp only [Act.put, List.getElem_toArray, List.getElem_cons_zero, List.getElem_cons_succ, List.setIfInBounds_toArray, List.set_cons_zero, List.set_cons_succ]
        refine pt_q (v := ?_) rfl (by rfl) ?_ ?_
        rotate_left
        · intro w' hBw'
          first | (go_simp; done) | (go_simp; with_reducible rfl)
        try simp only [Act.put, List.getElem_toArray, List.getElem_cons_zero, List.getElem_cons_succ, List.setIfInBounds_toArray, List.set_cons_zero, List.set_cons_succ]
        refine pt_q (v := ?_) rfl (by rfl) ?_ ?_
        rotate_left
        · intro w' hBw'
          first | (go_simp; done) | (go_simp; with_reducible rfl)
        try simp only [Act.put, List.getElem_toArray, List.getElem_cons_zero, List.getElem_cons_succ, List.setIfInBounds_toArray, List.set_cons_zero, List.set_cons_succ]
        refine pt_q (v := ?_) rfl (by rfl) ?_ ?_
        rotate_left
        · intro w' hBw'
          first | (go_simp; done) | (go_simp; with_reducible rfl)
        try simp only [Act.put, List.getElem_toArray, List.getElem_cons_zero, List.getElem_cons_succ, List.setIfInBounds_toArray, List.set_cons_zero, List.set_cons_succ]
        refine pt_q (v := ?_) rfl (by rfl) ?_ ?_
        rotate_left
        · intro w' hBw'
          first | (go_simp; done) | (go_simp; with_reducible rfl)
        try simp only [Act.put, List.getElem_toArray, List.getElem_cons_zero, List.getElem_cons_succ, List.setIfInBounds_toArray, List.set_cons_zero, List.set_cons_succ]
        refine pt_q (v := ?_) rfl (by rfl) ?_ ?_
        rotate_left
        · intro w' hBw'
          first | (go_simp; done) | (go_simp; with_reducible rfl)
        try simp only [Act.put, List.getElem_toArray, List.getElem_cons_zero, List.getElem_cons_succ, List.setIfInBounds_toArray, List.set_cons_zero, List.set_cons_succ]
        refine pt_q (v := ?_) rfl (by rfl) ?_ ?_
        rotate_left
        · intro w' hBw'
          first | (go_simp; done) | (go_simp; with_reducible rfl)
        try simp only [Act.put, List.getElem_toArray, List.getElem_cons_zero, List.getElem_cons_succ, List.setIfInBounds_toArray, List.set_cons_zero, List.set_cons_succ]
        refine pt_c ?_
        refine pt_step rfl (by rfl) (fun K hK => ?_)
        go_simp
        refine (HLEN.out _ _ hD8).mono ?_
        rintro en w7 ⟨rfl, rfl⟩
        refine hK.out _ _ (But.refl _ _) ?_
        clear hK K
        try simp only [Act.put, List.getElem_toArray, List.getElem_cons_zero, List.getElem_cons_succ, List.setIfInBounds_toArray, List.set_cons_zero, List.set_cons_succ]
        refine pt_q (v := ?_) rfl (by rfl) ?_ ?_
        rotate_left
        · intro w' hBw'
          first | (go_simp; done) | (go_simp; with_reducible rfl)
        try simp only [Act.put, List.getElem_toArray, List.getElem_cons_zero, List.getElem_cons_succ, List.setIfInBounds_toArray, List.set_cons_zero, List.set_cons_succ]
        refine pt_q (v := ?_) rfl (by rfl) ?_ ?_
        rotate_left
        · intro w' hBw'
          first | (go_simp; done) | (go_simp; with_reducible rfl)
        try simp only [Act.put, List.getElem_toArray, List.getElem_cons_zero, List.getElem_cons_succ, List.setIfInBounds_toArray, List.set_cons_zero, List.set_cons_succ]
        refine pz_last rfl (by rfl) (fun K hK => ?_)
        go_simp
        refine hK.out _ _ ?_
        clear hK K
        try simp only [Act.put, List.getElem_toArray, List.getElem_cons_zero, List.getElem_cons_succ, List.setIfInBounds_toArray, List.set_cons_zero, List.set_cons_succ]
        refine ⟨rfl, ?_⟩
        go_wp2
        have hx4 := V8.z.set 0 (.bool true)
        have hm : Wd.heap[D]? = some (.deferred (some [])) := (hBd.block D (Array.getElem?_eq_some_iff.1 hKD).1).trans hKD
        have hne : D ≠ w.heap.size + 1 := by omega
        refine leaves_marks [D] _ (by simp) (fun D2 hD2 => ?_) (fun w9 hb9 => ?_)
        · obtain rfl : D2 = D := by simpa using hD2
          exact (Below.heap_setCell Wd ⟨w.heap.size + 1, 0, none⟩ (.bool true) D2 (by simpa using hne)).trans hm
        · have hne2 : w.heap.size + 1 ∉ [D] := fun h => hne (List.mem_singleton.1 h).symm
          have hx5 : RowAt w9 (w.heap.size + 1) #[.bool true] 4 := (hb9.same _ hx4.lt hne2).trans hx4
          have hx5c := hx5.cell (i := 0) (v := .bool true) rfl
          refine ⟨.bool true, by simp [results, Try.results21, go_sem, hx5c], rfl, ?_⟩
          have hB3 := V8.below.setCell (show w.heap.size ≤ (⟨w.heap.size + 1, 0, none⟩ : Addr).block by simp) (.bool true)
          exact hB3.trans (hb9.below (fun D2 hD2 => by have := List.mem_singleton.1 hD2; omega) hB3.size)
end Go.Proofs.Ytekpjbablcoahaa
