/-
  The law's works.
-/
import Derived.Test.YtekpjbablcoahaaDiskNA
namespace Go.Proofs.Ytekpjbablcoahaa
open Go.RowKit Go.Maps Dk
set_option linter.unusedSimpArgs false
set_option linter.unusedVariables false

set_option maxHeartbeats 8000000 in
set_option maxRecDepth 100000 in
theorem dWorks_c (w : World) : Calls Try.prog 6 #[] w (Ret (.bool true) w) := by
  have kc := fun (w : World) (C : Array Value) (n c : Nat) => Lib.run_convert_bytes_const (P := Try.prog) w 33 5 C n c Try.underlying33 Try.underlying5
  go_enter Try.func6, Try.ntmps6
  go_wp2_with fail
  go_at_call 7
  refine (dNew_c 4 (by decide) (by decide) _).mono ?_
  rintro en wq ⟨rfl, V, hq⟩
  have HB := Lib.hid hq
  have hz := V.var.lt
  have hzm := V.map.lt
  obtain ⟨B, hB⟩ : ∃ B, w.heap.size + 1 = B := ⟨_, rfl⟩
  obtain ⟨M, hM⟩ : ∃ M, w.heap.size = M := ⟨_, rfl⟩
  have hBl : w.heap.size ≤ B := by omega
  have hMl : w.heap.size ≤ M := by omega
  have hBM : B ≠ M := by omega
  rw [hB] at V
  rw [hM] at V
  clear hM hq
  rw [hB] at hz ⊢
  clear hB
  go_wp2_with fail
  go_at_call 10
  refine (dFullN_c 97 _ rfl _).mono ?_
  rintro en wq ⟨rfl, hf, hq⟩
  have Fb := sl_of_row hf
  replace HB := Lib.hid (below_up HB.out hq)
  replace V := V.below hq
  clear hq
  go_wp2_with fail
  go_at_call 9
  refine (dWrite_c (d := ⟨-1, 4, [], []⟩) (by decide) (by decide) (by simp) 1 (fullS 97) (by decide) _ V Fb (by decide)).mono ?_
  rintro en wq ⟨rfl, ⟨u, V⟩, hq⟩
  replace HB := Lib.hid (HB.out.trans (hq.below (fun k e => by have e : k = B := e; omega) HB.out.size))
  clear hq Fb hf
  replace V : DiskAt wq B M _ ⟨-1, 4, [], [(1, (fullS 97))]⟩ := V
  have hvl := V.var.lt
  have hml := V.map.lt
  have ht := dRead_c 1 (by decide) _ V (by decide)
  rw [show readF ⟨-1, 4, [], [(1, (fullS 97))]⟩ 1 = (fullS 97) from rfl] at ht
  go_wp2_with fail
  go_at_call 16
  refine (ht).mono ?_
  rintro en wq ⟨b1, rfl, hbb, hS, hq⟩
  have S1 := sl_of_row hS
  replace HB := Lib.hid (below_up HB.out hq)
  replace V := V.below hq
  have ga1 : b1 ≠ B := by omega
  have gb1 : b1 ≠ M := by omega
  clear hq hS hbb hvl hml ht
  have hvl := V.var.lt
  have hml := V.map.lt
  have ht := dLies_c 1 (by decide) _ V (by decide)
  rw [show lie [] 1 = zsec from rfl] at ht
  go_wp2_with fail
  go_at_call 25
  refine (ht).mono ?_
  rintro en wq ⟨b2, rfl, hbb, hS, hq⟩
  have S2 := sl_of_row hS
  replace HB := Lib.hid (below_up HB.out hq)
  replace V := V.below hq
  replace S1 := S1.up hq
  have ga2 : b2 ≠ B := by omega
  have gb2 : b2 ≠ M := by omega
  clear hq hS hbb hvl hml ht
  go_wp2_with fail
  go_at_call 11
  refine (dSync_c (by decide) (by decide) _ V (by decide)).mono ?_
  rintro en wq ⟨rfl, V, hq⟩
  replace HB := Lib.hid (HB.out.trans (hq.below (fun k e => by rcases e with e | e <;> omega) HB.out.size))
  replace S1 := S1.keep hq (fun e => by rcases e with e | e <;> omega)
  replace S2 := S2.keep hq (fun e => by rcases e with e | e <;> omega)
  clear hq
  replace V : DiskAt wq B M _ ⟨-1, 4, [(1, (fullS 97))], []⟩ := V
  have hvl := V.var.lt
  have hml := V.map.lt
  have ht := dLies_c 1 (by decide) _ V (by decide)
  rw [show lie [(1, (fullS 97))] 1 = (fullS 97) from rfl] at ht
  go_wp2_with fail
  go_at_call 25
  refine (ht).mono ?_
  rintro en wq ⟨b3, rfl, hbb, hS, hq⟩
  have S3 := sl_of_row hS
  replace HB := Lib.hid (below_up HB.out hq)
  replace V := V.below hq
  replace S1 := S1.up hq
  replace S2 := S2.up hq
  have ga3 : b3 ≠ B := by omega
  have gb3 : b3 ≠ M := by omega
  clear hq hS hbb hvl hml ht
  go_wp2_with fail
  go_at_call 10
  refine (dFullN_c 98 _ rfl _).mono ?_
  rintro en wq ⟨rfl, hf, hq⟩
  have Fb := sl_of_row hf
  replace HB := Lib.hid (below_up HB.out hq)
  replace V := V.below hq
  replace S1 := S1.up hq
  replace S2 := S2.up hq
  replace S3 := S3.up hq
  clear hq
  go_wp2_with fail
  go_at_call 9
  refine (dWrite_c (d := ⟨-1, 4, [(1, (fullS 97))], []⟩) (by decide) (by decide) (by simp) 1 (fullS 98) (by decide) _ V Fb (by decide)).mono ?_
  rintro en wq ⟨rfl, ⟨u, V⟩, hq⟩
  replace HB := Lib.hid (HB.out.trans (hq.below (fun k e => by have e : k = B := e; omega) HB.out.size))
  replace S1 := S1.keep hq (fun e => by have e : _ = B := e; omega)
  replace S2 := S2.keep hq (fun e => by have e : _ = B := e; omega)
  replace S3 := S3.keep hq (fun e => by have e : _ = B := e; omega)
  clear hq Fb hf
  replace V : DiskAt wq B M _ ⟨-1, 4, [(1, (fullS 97))], [(1, (fullS 98))]⟩ := V
  go_wp2_with fail
  go_at_call 10
  refine (dFullN_c 99 _ rfl _).mono ?_
  rintro en wq ⟨rfl, hf, hq⟩
  have Fb := sl_of_row hf
  replace HB := Lib.hid (below_up HB.out hq)
  replace V := V.below hq
  replace S1 := S1.up hq
  replace S2 := S2.up hq
  replace S3 := S3.up hq
  clear hq
  go_wp2_with fail
  go_at_call 9
  refine (dWrite_c (d := ⟨-1, 4, [(1, (fullS 97))], [(1, (fullS 98))]⟩) (by decide) (by decide) (by simp) 2 (fullS 99) (by decide) _ V Fb (by decide)).mono ?_
  rintro en wq ⟨rfl, ⟨u, V⟩, hq⟩
  replace HB := Lib.hid (HB.out.trans (hq.below (fun k e => by have e : k = B := e; omega) HB.out.size))
  replace S1 := S1.keep hq (fun e => by have e : _ = B := e; omega)
  replace S2 := S2.keep hq (fun e => by have e : _ = B := e; omega)
  replace S3 := S3.keep hq (fun e => by have e : _ = B := e; omega)
  clear hq Fb hf
  replace V : DiskAt wq B M _ ⟨-1, 4, [(1, (fullS 97))], [(1, (fullS 98)), (2, (fullS 99))]⟩ := V
  have hq := below_alloc wq (.cells #[.bool false, .bool true] 4)
  have hkr := RowAt.new wq #[.bool false, .bool true] 4
  replace HB := Lib.hid (below_up HB.out hq)
  replace V := V.below hq
  replace S1 := S1.up hq
  replace S2 := S2.up hq
  replace S3 := S3.up hq
  clear hq
  have hks : Sl (wq.alloc (.cells #[.bool false, .bool true] 4)) 1 (.slice (some ⟨wq.heap.size, 0, none⟩) 2 2) 2 ([false, true].map Value.bool) := ⟨rfl, .inr ⟨_, 0, 2, rfl, Nat.le_refl _, by decide, fun j v hj => by rw [Nat.zero_add]; exact hkr.cell (by simpa using hj)⟩⟩
  go_wp2_with fail
  go_at_call 15
  refine (dCrash_c _ 2 [false, true] _ V hks).mono ?_
  rintro en wq ⟨rfl, V, hq⟩
  replace HB := Lib.hid (HB.out.trans (hq.below (fun k e => by rcases e with e | e <;> omega) HB.out.size))
  replace S1 := S1.keep hq (fun e => by rcases e with e | e <;> omega)
  replace S2 := S2.keep hq (fun e => by rcases e with e | e <;> omega)
  replace S3 := S3.keep hq (fun e => by rcases e with e | e <;> omega)
  clear hq hks hkr
  replace V : DiskAt wq B M _ ⟨-1, 4, [(1, (fullS 97)), (2, (fullS 99))], []⟩ := V
  have hvl := V.var.lt
  have hml := V.map.lt
  have ht := dRead_c 1 (by decide) _ V (by decide)
  rw [show readF ⟨-1, 4, [(1, (fullS 97)), (2, (fullS 99))], []⟩ 1 = (fullS 97) from rfl] at ht
  go_wp2_with fail
  go_at_call 16
  refine (ht).mono ?_
  rintro en wq ⟨b4, rfl, hbb, hS, hq⟩
  have S4 := sl_of_row hS
  replace HB := Lib.hid (below_up HB.out hq)
  replace V := V.below hq
  replace S1 := S1.up hq
  replace S2 := S2.up hq
  replace S3 := S3.up hq
  have ga4 : b4 ≠ B := by omega
  have gb4 : b4 ≠ M := by omega
  clear hq hS hbb hvl hml ht
  have hvl := V.var.lt
  have hml := V.map.lt
  have ht := dRead_c 2 (by decide) _ V (by decide)
  rw [show readF ⟨-1, 4, [(1, (fullS 97)), (2, (fullS 99))], []⟩ 2 = (fullS 99) from rfl] at ht
  go_wp2_with fail
  go_at_call 16
  refine (ht).mono ?_
  rintro en wq ⟨b5, rfl, hbb, hS, hq⟩
  have S5 := sl_of_row hS
  replace HB := Lib.hid (below_up HB.out hq)
  replace V := V.below hq
  replace S1 := S1.up hq
  replace S2 := S2.up hq
  replace S3 := S3.up hq
  replace S4 := S4.up hq
  have ga5 : b5 ≠ B := by omega
  have gb5 : b5 ≠ M := by omega
  clear hq hS hbb hvl hml ht
  go_wp2_with fail
  go_at_call 13
  refine (dArm_c 1 _ V).mono ?_
  rintro en wq ⟨rfl, V, hq⟩
  replace HB := Lib.hid (HB.out.trans (hq.below (fun k e => by have e : k = B := e; omega) HB.out.size))
  replace S1 := S1.keep hq (fun e => by have e : _ = B := e; omega)
  replace S2 := S2.keep hq (fun e => by have e : _ = B := e; omega)
  replace S3 := S3.keep hq (fun e => by have e : _ = B := e; omega)
  replace S4 := S4.keep hq (fun e => by have e : _ = B := e; omega)
  replace S5 := S5.keep hq (fun e => by have e : _ = B := e; omega)
  clear hq
  replace V : DiskAt wq B M _ ⟨1, 4, [(1, (fullS 97)), (2, (fullS 99))], []⟩ := V
  go_wp2_with fail
  go_at_call 10
  refine (dFullN_c 100 _ rfl _).mono ?_
  rintro en wq ⟨rfl, hf, hq⟩
  have Fb := sl_of_row hf
  replace HB := Lib.hid (below_up HB.out hq)
  replace V := V.below hq
  replace S1 := S1.up hq
  replace S2 := S2.up hq
  replace S3 := S3.up hq
  replace S4 := S4.up hq
  replace S5 := S5.up hq
  clear hq
  go_wp2_with fail
  go_at_call 9
  refine (dWrite_c (d := ⟨1, 4, [(1, (fullS 97)), (2, (fullS 99))], []⟩) (by decide) (by decide) (by simp) 0 (fullS 100) (by decide) _ V Fb (by decide)).mono ?_
  rintro en wq ⟨rfl, ⟨u, V⟩, hq⟩
  replace HB := Lib.hid (HB.out.trans (hq.below (fun k e => by have e : k = B := e; omega) HB.out.size))
  replace S1 := S1.keep hq (fun e => by have e : _ = B := e; omega)
  replace S2 := S2.keep hq (fun e => by have e : _ = B := e; omega)
  replace S3 := S3.keep hq (fun e => by have e : _ = B := e; omega)
  replace S4 := S4.keep hq (fun e => by have e : _ = B := e; omega)
  replace S5 := S5.keep hq (fun e => by have e : _ = B := e; omega)
  clear hq Fb hf
  replace V : DiskAt wq B M _ ⟨0, 4, [(1, (fullS 97)), (2, (fullS 99))], [(0, (fullS 100))]⟩ := V
  go_wp2_with fail
  go_at_call 11
  refine (dSyncNo_c _ V rfl).mono ?_
  rintro en wq ⟨rfl, hq⟩
  replace HB := Lib.hid (below_up HB.out hq)
  replace V := V.below hq
  replace S1 := S1.up hq
  replace S2 := S2.up hq
  replace S3 := S3.up hq
  replace S4 := S4.up hq
  replace S5 := S5.up hq
  clear hq
  go_wp2_with fail
  go_at_call 10
  refine (dFullN_c 100 _ rfl _).mono ?_
  rintro en wq ⟨rfl, hf, hq⟩
  have Fb := sl_of_row hf
  replace HB := Lib.hid (below_up HB.out hq)
  replace V := V.below hq
  replace S1 := S1.up hq
  replace S2 := S2.up hq
  replace S3 := S3.up hq
  replace S4 := S4.up hq
  replace S5 := S5.up hq
  clear hq
  have ht := fun a : Option Addr => dWriteBad_c (n := 64) (c := 64) (a := a) 4 _ V (by decide)
  simp only [show writeE ⟨0, 4, [(1, (fullS 97)), (2, (fullS 99))], [(0, (fullS 100))]⟩ 4 64 = 4 from rfl] at ht
  go_wp2_with fail
  go_at_call 9
  refine ((ht _)).mono ?_
  rintro en wq ⟨rfl, hq⟩
  replace HB := Lib.hid (below_up HB.out hq)
  replace V := V.below hq
  replace S1 := S1.up hq
  replace S2 := S2.up hq
  replace S3 := S3.up hq
  replace S4 := S4.up hq
  replace S5 := S5.up hq
  clear hq ht Fb hf
  have hq := below_alloc wq (.cells #[.int .u8 97, .int .u8 98, .int .u8 99] 5 (3, 4))
  replace HB := Lib.hid (below_up HB.out hq)
  replace V := V.below hq
  replace S1 := S1.up hq
  replace S2 := S2.up hq
  replace S3 := S3.up hq
  replace S4 := S4.up hq
  replace S5 := S5.up hq
  clear hq
  have ht := dWriteBad_c (n := 3) (c := 3) (a := some ⟨wq.heap.size, 0, none⟩) 0 _ V (by decide)
  rw [show writeE ⟨0, 4, [(1, (fullS 97)), (2, (fullS 99))], [(0, (fullS 100))]⟩ 0 3 = 2 from rfl] at ht
  go_wp2_with fail
  go_at_call 9
  refine (ht).mono ?_
  rintro en wq ⟨rfl, hq⟩
  replace HB := Lib.hid (below_up HB.out hq)
  replace V := V.below hq
  replace S1 := S1.up hq
  replace S2 := S2.up hq
  replace S3 := S3.up hq
  replace S4 := S4.up hq
  replace S5 := S5.up hq
  clear hq ht
  go_wp2_with fail
  refine wp_region_piL [(0, false), (2, false), (5, false), (8, false), (11, false), (14, false), (17, false), (20, false), (23, false), (26, false), (29, false), (32, false), (35, false), (1, true), (3, true), (4, false), (6, true), (7, false), (9, true), (10, false), (12, true), (13, false), (15, true), (16, false), (18, true), (19, false), (21, true), (22, false), (24, true), (25, false), (27, true), (28, false), (30, true), (31, false), (33, true), (34, false), (36, true), (37, false), (38, false), (39, false), (40, false), (41, false), (42, true), (43, false), (44, false), (45, false), (46, false), (47, false), (48, false), (49, true), (50, false), (51, false), (52, false), (53, false), (54, false), (55, false), (56, true), (57, false), (58, false), (59, false), (60, false), (61, false), (62, false), (63, true), (64, false), (65, false), (66, false), (67, false), (68, false), (69, false), (70, true), (71, false), (72, false), (73, false), (74, false), (75, false), (76, true), (77, false), (78, false), (79, false), (80, false), (81, true), (82, false), (83, false), (84, false), (85, false), (86, true), (87, false), (88, false), (89, false)] (by kernel_rfl) (by kernel_rfl) (by kernel_rfl) rfl (fun _ _ d _ _ h => by cases d <;> exact h) (fun OPS HO Wd hBd => ?_)
  try simp (maxSteps := 2000000) only [Act.put, List.getElem_toArray, List.getElem_cons_zero, List.getElem_cons_succ, List.setIfInBounds_toArray, List.set_cons_zero, List.set_cons_succ]
  have hwz : IntKind.i64.wrap 0 = 0 := by decide
  have HBc := Lib.hid (below_up HB.out hBd)
  have T1 := S1.up hBd
  have T2 := S2.up hBd
  have T3 := S3.up hBd
  have T4 := S4.up hBd
  have T5 := S5.up hBd
  refine pi_q (v := ?_) (by rw [← HO.out]; simp only [List.getElem?_toArray, List.getElem?_cons_zero, List.getElem?_cons_succ]; rfl) (by rw [← HO.out]; kernel_rfl) ?_ ?_
  rotate_left
  · intro w' hBw'
    first | (go_simp; done) | (go_simp; with_reducible rfl)
  try simp (maxSteps := 2000000) only [Act.put, List.getElem_toArray, List.getElem_cons_zero, List.getElem_cons_succ, List.setIfInBounds_toArray, List.set_cons_zero, List.set_cons_succ]
  refine pi_q (v := ?_) (by rw [← HO.out]; simp only [List.getElem?_toArray, List.getElem?_cons_zero, List.getElem?_cons_succ]; rfl) (by rw [← HO.out]; kernel_rfl) ?_ ?_
  rotate_left
  · intro w' hBw'
    first | (go_simp; done) | (go_simp; with_reducible rfl)
  try simp (maxSteps := 2000000) only [Act.put, List.getElem_toArray, List.getElem_cons_zero, List.getElem_cons_succ, List.setIfInBounds_toArray, List.set_cons_zero, List.set_cons_succ]
  refine pi_q (v := ?_) (by rw [← HO.out]; simp only [List.getElem?_toArray, List.getElem?_cons_zero, List.getElem?_cons_succ]; rfl) (by rw [← HO.out]; kernel_rfl) ?_ ?_
  rotate_left
  · intro w' hBw'
    first | (go_simp; done) | (go_simp; with_reducible rfl)
  try simp (maxSteps := 2000000) only [Act.put, List.getElem_toArray, List.getElem_cons_zero, List.getElem_cons_succ, List.setIfInBounds_toArray, List.set_cons_zero, List.set_cons_succ]
  refine pi_q (v := ?_) (by rw [← HO.out]; simp only [List.getElem?_toArray, List.getElem?_cons_zero, List.getElem?_cons_succ]; rfl) (by rw [← HO.out]; kernel_rfl) ?_ ?_
  rotate_left
  · intro w' hBw'
    first | (go_simp; done) | (go_simp; with_reducible rfl)
  try simp (maxSteps := 2000000) only [Act.put, List.getElem_toArray, List.getElem_cons_zero, List.getElem_cons_succ, List.setIfInBounds_toArray, List.set_cons_zero, List.set_cons_succ]
  refine pi_q (v := ?_) (by rw [← HO.out]; simp only [List.getElem?_toArray, List.getElem?_cons_zero, List.getElem?_cons_succ]; rfl) (by rw [← HO.out]; kernel_rfl) ?_ ?_
  rotate_left
  · intro w' hBw'
    first | (go_simp; done) | (go_simp; with_reducible rfl)
  try simp (maxSteps := 2000000) only [Act.put, List.getElem_toArray, List.getElem_cons_zero, List.getElem_cons_succ, List.setIfInBounds_toArray, List.set_cons_zero, List.set_cons_succ]
  refine pi_q (v := ?_) (by rw [← HO.out]; simp only [List.getElem?_toArray, List.getElem?_cons_zero, List.getElem?_cons_succ]; rfl) (by rw [← HO.out]; kernel_rfl) ?_ ?_
  rotate_left
  · intro w' hBw'
    first | (go_simp; done) | (go_simp; with_reducible rfl)
  try simp (maxSteps := 2000000) only [Act.put, List.getElem_toArray, List.getElem_cons_zero, List.getElem_cons_succ, List.setIfInBounds_toArray, List.set_cons_zero, List.set_cons_succ]
  refine pi_q (v := ?_) (by rw [← HO.out]; simp only [List.getElem?_toArray, List.getElem?_cons_zero, List.getElem?_cons_succ]; rfl) (by rw [← HO.out]; kernel_rfl) ?_ ?_
  rotate_left
  · intro w' hBw'
    first | (go_simp; done) | (go_simp; with_reducible rfl)
  try simp (maxSteps := 2000000) only [Act.put, List.getElem_toArray, List.getElem_cons_zero, List.getElem_cons_succ, List.setIfInBounds_toArray, List.set_cons_zero, List.set_cons_succ]
  refine pi_q (v := ?_) (by rw [← HO.out]; simp only [List.getElem?_toArray, List.getElem?_cons_zero, List.getElem?_cons_succ]; rfl) (by rw [← HO.out]; kernel_rfl) ?_ ?_
  rotate_left
  · intro w' hBw'
    first | (go_simp; done) | (go_simp; with_reducible rfl)
  try simp (maxSteps := 2000000) only [Act.put, List.getElem_toArray, List.getElem_cons_zero, List.getElem_cons_succ, List.setIfInBounds_toArray, List.set_cons_zero, List.set_cons_succ]
  refine pi_q (v := ?_) (by rw [← HO.out]; simp only [List.getElem?_toArray, List.getElem?_cons_zero, List.getElem?_cons_succ]; rfl) (by rw [← HO.out]; kernel_rfl) ?_ ?_
  rotate_left
  · intro w' hBw'
    first | (go_simp; done) | (go_simp; with_reducible rfl)
  try simp (maxSteps := 2000000) only [Act.put, List.getElem_toArray, List.getElem_cons_zero, List.getElem_cons_succ, List.setIfInBounds_toArray, List.set_cons_zero, List.set_cons_succ]
  refine pi_q (v := ?_) (by rw [← HO.out]; simp only [List.getElem?_toArray, List.getElem?_cons_zero, List.getElem?_cons_succ]; rfl) (by rw [← HO.out]; kernel_rfl) ?_ ?_
  rotate_left
  · intro w' hBw'
    first | (go_simp; done) | (go_simp; with_reducible rfl)
  try simp (maxSteps := 2000000) only [Act.put, List.getElem_toArray, List.getElem_cons_zero, List.getElem_cons_succ, List.setIfInBounds_toArray, List.set_cons_zero, List.set_cons_succ]
  refine pi_q (v := ?_) (by rw [← HO.out]; simp only [List.getElem?_toArray, List.getElem?_cons_zero, List.getElem?_cons_succ]; rfl) (by rw [← HO.out]; kernel_rfl) ?_ ?_
  rotate_left
  · intro w' hBw'
    first | (go_simp; done) | (go_simp; with_reducible rfl)
  try simp (maxSteps := 2000000) only [Act.put, List.getElem_toArray, List.getElem_cons_zero, List.getElem_cons_succ, List.setIfInBounds_toArray, List.set_cons_zero, List.set_cons_succ]
  refine pi_q (v := ?_) (by rw [← HO.out]; simp only [List.getElem?_toArray, List.getElem?_cons_zero, List.getElem?_cons_succ]; rfl) (by rw [← HO.out]; kernel_rfl) ?_ ?_
  rotate_left
  · intro w' hBw'
    first | (go_simp; done) | (go_simp; with_reducible rfl)
  try simp (maxSteps := 2000000) only [Act.put, List.getElem_toArray, List.getElem_cons_zero, List.getElem_cons_succ, List.setIfInBounds_toArray, List.set_cons_zero, List.set_cons_succ]
  refine pi_q (v := ?_) (by rw [← HO.out]; simp only [List.getElem?_toArray, List.getElem?_cons_zero, List.getElem?_cons_succ]; rfl) (by rw [← HO.out]; kernel_rfl) ?_ ?_
  rotate_left
  · intro w' hBw'
    first | (go_simp; done) | (go_simp; with_reducible rfl)
  try simp (maxSteps := 2000000) only [Act.put, List.getElem_toArray, List.getElem_cons_zero, List.getElem_cons_succ, List.setIfInBounds_toArray, List.set_cons_zero, List.set_cons_succ]
  refine pi_call (by rw [← HO.out]; simp only [List.getElem?_toArray, List.getElem?_cons_zero, List.getElem?_cons_succ]; rfl) (by rw [← HO.out]; kernel_rfl) (dNum_c 0 _) dEnters_num (by rfl) (by kernel_rfl) ?_
  rintro en wN ⟨rfl, rfl⟩
  refine ⟨_, rfl, (Below.refl _ _), ?_⟩
  try simp (maxSteps := 2000000) only [Act.put, List.getElem_toArray, List.getElem_cons_zero, List.getElem_cons_succ, List.setIfInBounds_toArray, List.set_cons_zero, List.set_cons_succ]
  refine pi_call (by rw [← HO.out]; simp only [List.getElem?_toArray, List.getElem?_cons_zero, List.getElem?_cons_succ]; rfl) (by rw [← HO.out]; kernel_rfl) (dNum_c 0 _) dEnters_num (by rfl) (by kernel_rfl) ?_
  rintro en wN ⟨rfl, rfl⟩
  refine ⟨_, rfl, (Below.refl _ _), ?_⟩
  try simp (maxSteps := 2000000) only [Act.put, List.getElem_toArray, List.getElem_cons_zero, List.getElem_cons_succ, List.setIfInBounds_toArray, List.set_cons_zero, List.set_cons_succ]
  refine pi_q (v := ?_) (by rw [← HO.out]; simp only [List.getElem?_toArray, List.getElem?_cons_zero, List.getElem?_cons_succ]; rfl) (by rw [← HO.out]; kernel_rfl) ?_ ?_
  rotate_left
  · intro w' hBw'
    first | (go_simp; done) | (go_simp; with_reducible rfl)
  try simp (maxSteps := 2000000) only [Act.put, List.getElem_toArray, List.getElem_cons_zero, List.getElem_cons_succ, List.setIfInBounds_toArray, List.set_cons_zero, List.set_cons_succ]
  refine pi_call (by rw [← HO.out]; simp only [List.getElem?_toArray, List.getElem?_cons_zero, List.getElem?_cons_succ]; rfl) (by rw [← HO.out]; kernel_rfl) (dNum_c 0 _) dEnters_num (by rfl) (by kernel_rfl) ?_
  rintro en wN ⟨rfl, rfl⟩
  refine ⟨_, rfl, (Below.refl _ _), ?_⟩
  try simp (maxSteps := 2000000) only [Act.put, List.getElem_toArray, List.getElem_cons_zero, List.getElem_cons_succ, List.setIfInBounds_toArray, List.set_cons_zero, List.set_cons_succ]
  refine pi_q (v := ?_) (by rw [← HO.out]; simp only [List.getElem?_toArray, List.getElem?_cons_zero, List.getElem?_cons_succ]; rfl) (by rw [← HO.out]; kernel_rfl) ?_ ?_
  rotate_left
  · intro w' hBw'
    first | (go_simp; done) | (go_simp; with_reducible rfl)
  try simp (maxSteps := 2000000) only [Act.put, List.getElem_toArray, List.getElem_cons_zero, List.getElem_cons_succ, List.setIfInBounds_toArray, List.set_cons_zero, List.set_cons_succ]
  refine pi_call (by rw [← HO.out]; simp only [List.getElem?_toArray, List.getElem?_cons_zero, List.getElem?_cons_succ]; rfl) (by rw [← HO.out]; kernel_rfl) (dNum_c 0 _) dEnters_num (by rfl) (by kernel_rfl) ?_
  rintro en wN ⟨rfl, rfl⟩
  refine ⟨_, rfl, (Below.refl _ _), ?_⟩
  try simp (maxSteps := 2000000) only [Act.put, List.getElem_toArray, List.getElem_cons_zero, List.getElem_cons_succ, List.setIfInBounds_toArray, List.set_cons_zero, List.set_cons_succ]
  refine pi_q (v := ?_) (by rw [← HO.out]; simp only [List.getElem?_toArray, List.getElem?_cons_zero, List.getElem?_cons_succ]; rfl) (by rw [← HO.out]; kernel_rfl) ?_ ?_
  rotate_left
  · intro w' hBw'
    first | (go_simp; done) | (go_simp; with_reducible rfl)
  try simp (maxSteps := 2000000) only [Act.put, List.getElem_toArray, List.getElem_cons_zero, List.getElem_cons_succ, List.setIfInBounds_toArray, List.set_cons_zero, List.set_cons_succ]
  refine pi_call (by rw [← HO.out]; simp only [List.getElem?_toArray, List.getElem?_cons_zero, List.getElem?_cons_succ]; rfl) (by rw [← HO.out]; kernel_rfl) (dNum_c 0 _) dEnters_num (by rfl) (by kernel_rfl) ?_
  rintro en wN ⟨rfl, rfl⟩
  refine ⟨_, rfl, (Below.refl _ _), ?_⟩
  try simp (maxSteps := 2000000) only [Act.put, List.getElem_toArray, List.getElem_cons_zero, List.getElem_cons_succ, List.setIfInBounds_toArray, List.set_cons_zero, List.set_cons_succ]
  refine pi_q (v := ?_) (by rw [← HO.out]; simp only [List.getElem?_toArray, List.getElem?_cons_zero, List.getElem?_cons_succ]; rfl) (by rw [← HO.out]; kernel_rfl) ?_ ?_
  rotate_left
  · intro w' hBw'
    first | (go_simp; done) | (go_simp; with_reducible rfl)
  try simp (maxSteps := 2000000) only [Act.put, List.getElem_toArray, List.getElem_cons_zero, List.getElem_cons_succ, List.setIfInBounds_toArray, List.set_cons_zero, List.set_cons_succ]
  refine pi_call (by rw [← HO.out]; simp only [List.getElem?_toArray, List.getElem?_cons_zero, List.getElem?_cons_succ]; rfl) (by rw [← HO.out]; kernel_rfl) (dNum_c 0 _) dEnters_num (by rfl) (by kernel_rfl) ?_
  rintro en wN ⟨rfl, rfl⟩
  refine ⟨_, rfl, (Below.refl _ _), ?_⟩
  try simp (maxSteps := 2000000) only [Act.put, List.getElem_toArray, List.getElem_cons_zero, List.getElem_cons_succ, List.setIfInBounds_toArray, List.set_cons_zero, List.set_cons_succ]
  refine pi_q (v := ?_) (by rw [← HO.out]; simp only [List.getElem?_toArray, List.getElem?_cons_zero, List.getElem?_cons_succ]; rfl) (by rw [← HO.out]; kernel_rfl) ?_ ?_
  rotate_left
  · intro w' hBw'
    first | (go_simp; done) | (go_simp; with_reducible rfl)
  try simp (maxSteps := 2000000) only [Act.put, List.getElem_toArray, List.getElem_cons_zero, List.getElem_cons_succ, List.setIfInBounds_toArray, List.set_cons_zero, List.set_cons_succ]
  refine pi_call (by rw [← HO.out]; simp only [List.getElem?_toArray, List.getElem?_cons_zero, List.getElem?_cons_succ]; rfl) (by rw [← HO.out]; kernel_rfl) (dNum_c 0 _) dEnters_num (by rfl) (by kernel_rfl) ?_
  rintro en wN ⟨rfl, rfl⟩
  refine ⟨_, rfl, (Below.refl _ _), ?_⟩
  try simp (maxSteps := 2000000) only [Act.put, List.getElem_toArray, List.getElem_cons_zero, List.getElem_cons_succ, List.setIfInBounds_toArray, List.set_cons_zero, List.set_cons_succ]
  refine pi_q (v := ?_) (by rw [← HO.out]; simp only [List.getElem?_toArray, List.getElem?_cons_zero, List.getElem?_cons_succ]; rfl) (by rw [← HO.out]; kernel_rfl) ?_ ?_
  rotate_left
  · intro w' hBw'
    first | (go_simp; done) | (go_simp; with_reducible rfl)
  try simp (maxSteps := 2000000) only [Act.put, List.getElem_toArray, List.getElem_cons_zero, List.getElem_cons_succ, List.setIfInBounds_toArray, List.set_cons_zero, List.set_cons_succ]
  refine pi_call (by rw [← HO.out]; simp only [List.getElem?_toArray, List.getElem?_cons_zero, List.getElem?_cons_succ]; rfl) (by rw [← HO.out]; kernel_rfl) (dNum_c 0 _) dEnters_num (by rfl) (by kernel_rfl) ?_
  rintro en wN ⟨rfl, rfl⟩
  refine ⟨_, rfl, (Below.refl _ _), ?_⟩
  try simp (maxSteps := 2000000) only [Act.put, List.getElem_toArray, List.getElem_cons_zero, List.getElem_cons_succ, List.setIfInBounds_toArray, List.set_cons_zero, List.set_cons_succ]
  refine pi_q (v := ?_) (by rw [← HO.out]; simp only [List.getElem?_toArray, List.getElem?_cons_zero, List.getElem?_cons_succ]; rfl) (by rw [← HO.out]; kernel_rfl) ?_ ?_
  rotate_left
  · intro w' hBw'
    first | (go_simp; done) | (go_simp; with_reducible rfl)
  try simp (maxSteps := 2000000) only [Act.put, List.getElem_toArray, List.getElem_cons_zero, List.getElem_cons_succ, List.setIfInBounds_toArray, List.set_cons_zero, List.set_cons_succ]
  refine pi_call (by rw [← HO.out]; simp only [List.getElem?_toArray, List.getElem?_cons_zero, List.getElem?_cons_succ]; rfl) (by rw [← HO.out]; kernel_rfl) (dNum_c 0 _) dEnters_num (by rfl) (by kernel_rfl) ?_
  rintro en wN ⟨rfl, rfl⟩
  refine ⟨_, rfl, (Below.refl _ _), ?_⟩
  try simp (maxSteps := 2000000) only [Act.put, List.getElem_toArray, List.getElem_cons_zero, List.getElem_cons_succ, List.setIfInBounds_toArray, List.set_cons_zero, List.set_cons_succ]
  refine pi_q (v := ?_) (by rw [← HO.out]; simp only [List.getElem?_toArray, List.getElem?_cons_zero, List.getElem?_cons_succ]; rfl) (by rw [← HO.out]; kernel_rfl) ?_ ?_
  rotate_left
  · intro w' hBw'
    first | (go_simp; done) | (go_simp; with_reducible rfl)
  try simp (maxSteps := 2000000) only [Act.put, List.getElem_toArray, List.getElem_cons_zero, List.getElem_cons_succ, List.setIfInBounds_toArray, List.set_cons_zero, List.set_cons_succ]
  refine pi_call (by rw [← HO.out]; simp only [List.getElem?_toArray, List.getElem?_cons_zero, List.getElem?_cons_succ]; rfl) (by rw [← HO.out]; kernel_rfl) (dNum_c 0 _) dEnters_num (by rfl) (by kernel_rfl) ?_
  rintro en wN ⟨rfl, rfl⟩
  refine ⟨_, rfl, (Below.refl _ _), ?_⟩
  try simp (maxSteps := 2000000) only [Act.put, List.getElem_toArray, List.getElem_cons_zero, List.getElem_cons_succ, List.setIfInBounds_toArray, List.set_cons_zero, List.set_cons_succ]
  refine pi_q (v := ?_) (by rw [← HO.out]; simp only [List.getElem?_toArray, List.getElem?_cons_zero, List.getElem?_cons_succ]; rfl) (by rw [← HO.out]; kernel_rfl) ?_ ?_
  rotate_left
  · intro w' hBw'
    first | (go_simp; done) | (go_simp; with_reducible rfl)
  try simp (maxSteps := 2000000) only [Act.put, List.getElem_toArray, List.getElem_cons_zero, List.getElem_cons_succ, List.setIfInBounds_toArray, List.set_cons_zero, List.set_cons_succ]
  refine pi_call (by rw [← HO.out]; simp only [List.getElem?_toArray, List.getElem?_cons_zero, List.getElem?_cons_succ]; rfl) (by rw [← HO.out]; kernel_rfl) (dNum_c 0 _) dEnters_num (by rfl) (by kernel_rfl) ?_
  rintro en wN ⟨rfl, rfl⟩
  refine ⟨_, rfl, (Below.refl _ _), ?_⟩
  try simp (maxSteps := 2000000) only [Act.put, List.getElem_toArray, List.getElem_cons_zero, List.getElem_cons_succ, List.setIfInBounds_toArray, List.set_cons_zero, List.set_cons_succ]
  refine pi_q (v := ?_) (by rw [← HO.out]; simp only [List.getElem?_toArray, List.getElem?_cons_zero, List.getElem?_cons_succ]; rfl) (by rw [← HO.out]; kernel_rfl) ?_ ?_
  rotate_left
  · intro w' hBw'
    first | (go_simp; done) | (go_simp; with_reducible rfl)
  try simp (maxSteps := 2000000) only [Act.put, List.getElem_toArray, List.getElem_cons_zero, List.getElem_cons_succ, List.setIfInBounds_toArray, List.set_cons_zero, List.set_cons_succ]
  refine pi_call (by rw [← HO.out]; simp only [List.getElem?_toArray, List.getElem?_cons_zero, List.getElem?_cons_succ]; rfl) (by rw [← HO.out]; kernel_rfl) (dNum_c 0 _) dEnters_num (by rfl) (by kernel_rfl) ?_
  rintro en wN ⟨rfl, rfl⟩
  refine ⟨_, rfl, (Below.refl _ _), ?_⟩
  try simp (maxSteps := 2000000) only [Act.put, List.getElem_toArray, List.getElem_cons_zero, List.getElem_cons_succ, List.setIfInBounds_toArray, List.set_cons_zero, List.set_cons_succ]
  refine pi_q (v := ?_) (by rw [← HO.out]; simp only [List.getElem?_toArray, List.getElem?_cons_zero, List.getElem?_cons_succ]; rfl) (by rw [← HO.out]; kernel_rfl) ?_ ?_
  rotate_left
  · intro w' hBw'
    first | (go_simp; done) | (go_simp; with_reducible rfl)
  try simp (maxSteps := 2000000) only [Act.put, List.getElem_toArray, List.getElem_cons_zero, List.getElem_cons_succ, List.setIfInBounds_toArray, List.set_cons_zero, List.set_cons_succ]
  refine pi_call (by rw [← HO.out]; simp only [List.getElem?_toArray, List.getElem?_cons_zero, List.getElem?_cons_succ]; rfl) (by rw [← HO.out]; kernel_rfl) (dNum_c 0 _) dEnters_num (by rfl) (by kernel_rfl) ?_
  rintro en wN ⟨rfl, rfl⟩
  refine ⟨_, rfl, (Below.refl _ _), ?_⟩
  try simp (maxSteps := 2000000) only [Act.put, List.getElem_toArray, List.getElem_cons_zero, List.getElem_cons_succ, List.setIfInBounds_toArray, List.set_cons_zero, List.set_cons_succ]
  refine pi_q (v := ?_) (by rw [← HO.out]; simp only [List.getElem?_toArray, List.getElem?_cons_zero, List.getElem?_cons_succ]; rfl) (by rw [← HO.out]; kernel_rfl) ?_ ?_
  rotate_left
  · intro w' hBw'
    first | (go_simp; done) | (go_simp; with_reducible rfl)
  try simp (maxSteps := 2000000) only [Act.put, List.getElem_toArray, List.getElem_cons_zero, List.getElem_cons_succ, List.setIfInBounds_toArray, List.set_cons_zero, List.set_cons_succ]
  refine pi_q (v := ?_) (by rw [← HO.out]; simp only [List.getElem?_toArray, List.getElem?_cons_zero, List.getElem?_cons_succ]; rfl) (by rw [← HO.out]; kernel_rfl) ?_ ?_
  rotate_left
  · intro w' hBw'
    first | (go_simp; done) | (go_simp; with_reducible rfl)
  try simp (maxSteps := 2000000) only [Act.put, List.getElem_toArray, List.getElem_cons_zero, List.getElem_cons_succ, List.setIfInBounds_toArray, List.set_cons_zero, List.set_cons_succ]
  refine pi_q (v := ?_) (by rw [← HO.out]; simp only [List.getElem?_toArray, List.getElem?_cons_zero, List.getElem?_cons_succ]; rfl) (by rw [← HO.out]; kernel_rfl) ?_ ?_
  rotate_left
  · intro w' hBw'
    first | (go_simp; done) | (go_simp; with_reducible rfl)
  try simp (maxSteps := 2000000) only [Act.put, List.getElem_toArray, List.getElem_cons_zero, List.getElem_cons_succ, List.setIfInBounds_toArray, List.set_cons_zero, List.set_cons_succ]
  refine pi_q (v := ?_) (by rw [← HO.out]; simp only [List.getElem?_toArray, List.getElem?_cons_zero, List.getElem?_cons_succ]; rfl) (by rw [← HO.out]; kernel_rfl) ?_ ?_
  rotate_left
  · intro w' hBw'
    first | (go_simp; done) | (go_simp; with_reducible rfl)
  try simp (maxSteps := 2000000) only [Act.put, List.getElem_toArray, List.getElem_cons_zero, List.getElem_cons_succ, List.setIfInBounds_toArray, List.set_cons_zero, List.set_cons_succ]
  refine pi_q (v := .string ⟨(fullS 97).1.toArray⟩) (by rw [← HO.out]; simp only [List.getElem?_toArray, List.getElem?_cons_zero, List.getElem?_cons_succ]; rfl) (by rw [← HO.out]; kernel_rfl) (by exact fun w' hb' => exec_str rfl (by kernel_rfl) (T1.up hb')) ?_
  try simp (maxSteps := 2000000) only [Act.put, List.getElem_toArray, List.getElem_cons_zero, List.getElem_cons_succ, List.setIfInBounds_toArray, List.set_cons_zero, List.set_cons_succ]
  refine pi_call (by rw [← HO.out]; simp only [List.getElem?_toArray, List.getElem?_cons_zero, List.getElem?_cons_succ]; rfl) (by rw [← HO.out]; kernel_rfl) (dFullN_c 97 _ rfl _) dEnters_full (by rfl) (by kernel_rfl) ?_
  rintro en wN ⟨rfl, hf1, hb1⟩
  have F1 := sl_of_row hf1
  replace T2 := T2.up hb1
  replace T3 := T3.up hb1
  replace T4 := T4.up hb1
  replace T5 := T5.up hb1
  replace HBc := Lib.hid (below_up HBc.out hb1)
  refine ⟨_, rfl, hb1, ?_⟩
  try simp (maxSteps := 2000000) only [Act.put, List.getElem_toArray, List.getElem_cons_zero, List.getElem_cons_succ, List.setIfInBounds_toArray, List.set_cons_zero, List.set_cons_succ]
  refine pi_q (v := .string ⟨(fullS 97).1.toArray⟩) (by rw [← HO.out]; simp only [List.getElem?_toArray, List.getElem?_cons_zero, List.getElem?_cons_succ]; rfl) (by rw [← HO.out]; kernel_rfl) (by exact fun w' hb' => exec_str rfl (by kernel_rfl) (F1.up hb')) ?_
  try simp (maxSteps := 2000000) only [Act.put, List.getElem_toArray, List.getElem_cons_zero, List.getElem_cons_succ, List.setIfInBounds_toArray, List.set_cons_zero, List.set_cons_succ]
  refine pi_q (v := .bool true) (by rw [← HO.out]; simp only [List.getElem?_toArray, List.getElem?_cons_zero, List.getElem?_cons_succ]; rfl) (by rw [← HO.out]; kernel_rfl) (by exact fun w' _ => exec_streq (s := ⟨(fullS 97).1.toArray⟩) rfl (by kernel_rfl) (by kernel_rfl) w') ?_
  try simp (maxSteps := 2000000) only [Act.put, List.getElem_toArray, List.getElem_cons_zero, List.getElem_cons_succ, List.setIfInBounds_toArray, List.set_cons_zero, List.set_cons_succ]
  refine pi_q (v := ?_) (by rw [← HO.out]; simp only [List.getElem?_toArray, List.getElem?_cons_zero, List.getElem?_cons_succ]; rfl) (by rw [← HO.out]; kernel_rfl) ?_ ?_
  rotate_left
  · intro w' hBw'
    first | (go_simp; done) | (go_simp; with_reducible rfl)
  try simp (maxSteps := 2000000) only [Act.put, List.getElem_toArray, List.getElem_cons_zero, List.getElem_cons_succ, List.setIfInBounds_toArray, List.set_cons_zero, List.set_cons_succ]
  refine pi_q (v := ?_) (by rw [← HO.out]; simp only [List.getElem?_toArray, List.getElem?_cons_zero, List.getElem?_cons_succ]; rfl) (by rw [← HO.out]; kernel_rfl) ?_ ?_
  rotate_left
  · intro w' hBw'
    first | (go_simp; done) | (go_simp; with_reducible rfl)
  try simp (maxSteps := 2000000) only [Act.put, List.getElem_toArray, List.getElem_cons_zero, List.getElem_cons_succ, List.setIfInBounds_toArray, List.set_cons_zero, List.set_cons_succ]
  refine pi_q (v := ?_) (by rw [← HO.out]; simp only [List.getElem?_toArray, List.getElem?_cons_zero, List.getElem?_cons_succ]; rfl) (by rw [← HO.out]; kernel_rfl) ?_ ?_
  rotate_left
  · intro w' hBw'
    first | (go_simp; done) | (go_simp; with_reducible rfl)
  try simp (maxSteps := 2000000) only [Act.put, List.getElem_toArray, List.getElem_cons_zero, List.getElem_cons_succ, List.setIfInBounds_toArray, List.set_cons_zero, List.set_cons_succ]
  refine pi_q (v := .string ⟨zsec.1.toArray⟩) (by rw [← HO.out]; simp only [List.getElem?_toArray, List.getElem?_cons_zero, List.getElem?_cons_succ]; rfl) (by rw [← HO.out]; kernel_rfl) (by exact fun w' hb' => exec_str rfl (by kernel_rfl) (T2.up hb')) ?_
  try simp (maxSteps := 2000000) only [Act.put, List.getElem_toArray, List.getElem_cons_zero, List.getElem_cons_succ, List.setIfInBounds_toArray, List.set_cons_zero, List.set_cons_succ]
  have hmk := make64
  refine pi_c (by rw [← HO.out]; simp only [List.getElem?_toArray, List.getElem?_cons_zero, List.getElem?_cons_succ]; rfl) (by rw [← HO.out]; kernel_rfl) (fun K hK => ?_)
  go_simp
  have hb2 := below_alloc wN (.cells (by8 noughts).toArray 5)
  have F2 : Sl (wN.alloc (.cells (by8 noughts).toArray 5)) 1 (.slice (some ⟨wN.heap.size, 0, none⟩) 64 64) 64 (secC zsec) := sl_of_row (RowAt.new wN (by8 noughts).toArray 5)
  replace T3 := T3.up hb2
  replace T4 := T4.up hb2
  replace T5 := T5.up hb2
  replace HBc := Lib.hid (below_up HBc.out hb2)
  refine hK.out _ _ hb2 ?_
  clear hK K
  try simp (maxSteps := 2000000) only [Act.put, List.getElem_toArray, List.getElem_cons_zero, List.getElem_cons_succ, List.setIfInBounds_toArray, List.set_cons_zero, List.set_cons_succ]
  refine pi_q (v := .string ⟨zsec.1.toArray⟩) (by rw [← HO.out]; simp only [List.getElem?_toArray, List.getElem?_cons_zero, List.getElem?_cons_succ]; rfl) (by rw [← HO.out]; kernel_rfl) (by exact fun w' hb' => exec_str rfl (by kernel_rfl) (F2.up hb')) ?_
  try simp (maxSteps := 2000000) only [Act.put, List.getElem_toArray, List.getElem_cons_zero, List.getElem_cons_succ, List.setIfInBounds_toArray, List.set_cons_zero, List.set_cons_succ]
  refine pi_q (v := .bool true) (by rw [← HO.out]; simp only [List.getElem?_toArray, List.getElem?_cons_zero, List.getElem?_cons_succ]; rfl) (by rw [← HO.out]; kernel_rfl) (by exact fun w' _ => exec_streq (s := ⟨zsec.1.toArray⟩) rfl (by kernel_rfl) (by kernel_rfl) w') ?_
  try simp (maxSteps := 2000000) only [Act.put, List.getElem_toArray, List.getElem_cons_zero, List.getElem_cons_succ, List.setIfInBounds_toArray, List.set_cons_zero, List.set_cons_succ]
  refine pi_q (v := ?_) (by rw [← HO.out]; simp only [List.getElem?_toArray, List.getElem?_cons_zero, List.getElem?_cons_succ]; rfl) (by rw [← HO.out]; kernel_rfl) ?_ ?_
  rotate_left
  · intro w' hBw'
    first | (go_simp; done) | (go_simp; with_reducible rfl)
  try simp (maxSteps := 2000000) only [Act.put, List.getElem_toArray, List.getElem_cons_zero, List.getElem_cons_succ, List.setIfInBounds_toArray, List.set_cons_zero, List.set_cons_succ]
  refine pi_q (v := ?_) (by rw [← HO.out]; simp only [List.getElem?_toArray, List.getElem?_cons_zero, List.getElem?_cons_succ]; rfl) (by rw [← HO.out]; kernel_rfl) ?_ ?_
  rotate_left
  · intro w' hBw'
    first | (go_simp; done) | (go_simp; with_reducible rfl)
  try simp (maxSteps := 2000000) only [Act.put, List.getElem_toArray, List.getElem_cons_zero, List.getElem_cons_succ, List.setIfInBounds_toArray, List.set_cons_zero, List.set_cons_succ]
  refine pi_q (v := ?_) (by rw [← HO.out]; simp only [List.getElem?_toArray, List.getElem?_cons_zero, List.getElem?_cons_succ]; rfl) (by rw [← HO.out]; kernel_rfl) ?_ ?_
  rotate_left
  · intro w' hBw'
    first | (go_simp; done) | (go_simp; with_reducible rfl)
  try simp (maxSteps := 2000000) only [Act.put, List.getElem_toArray, List.getElem_cons_zero, List.getElem_cons_succ, List.setIfInBounds_toArray, List.set_cons_zero, List.set_cons_succ]
  refine pi_q (v := .string ⟨(fullS 97).1.toArray⟩) (by rw [← HO.out]; simp only [List.getElem?_toArray, List.getElem?_cons_zero, List.getElem?_cons_succ]; rfl) (by rw [← HO.out]; kernel_rfl) (by exact fun w' hb' => exec_str rfl (by kernel_rfl) (T3.up hb')) ?_
  try simp (maxSteps := 2000000) only [Act.put, List.getElem_toArray, List.getElem_cons_zero, List.getElem_cons_succ, List.setIfInBounds_toArray, List.set_cons_zero, List.set_cons_succ]
  refine pi_call (by rw [← HO.out]; simp only [List.getElem?_toArray, List.getElem?_cons_zero, List.getElem?_cons_succ]; rfl) (by rw [← HO.out]; kernel_rfl) (dFullN_c 97 _ rfl _) dEnters_full (by rfl) (by kernel_rfl) ?_
  rintro en wN ⟨rfl, hf3, hb3⟩
  have F3 := sl_of_row hf3
  replace T4 := T4.up hb3
  replace T5 := T5.up hb3
  replace HBc := Lib.hid (below_up HBc.out hb3)
  refine ⟨_, rfl, hb3, ?_⟩
  try simp (maxSteps := 2000000) only [Act.put, List.getElem_toArray, List.getElem_cons_zero, List.getElem_cons_succ, List.setIfInBounds_toArray, List.set_cons_zero, List.set_cons_succ]
  refine pi_q (v := .string ⟨(fullS 97).1.toArray⟩) (by rw [← HO.out]; simp only [List.getElem?_toArray, List.getElem?_cons_zero, List.getElem?_cons_succ]; rfl) (by rw [← HO.out]; kernel_rfl) (by exact fun w' hb' => exec_str rfl (by kernel_rfl) (F3.up hb')) ?_
  try simp (maxSteps := 2000000) only [Act.put, List.getElem_toArray, List.getElem_cons_zero, List.getElem_cons_succ, List.setIfInBounds_toArray, List.set_cons_zero, List.set_cons_succ]
  refine pi_q (v := .bool true) (by rw [← HO.out]; simp only [List.getElem?_toArray, List.getElem?_cons_zero, List.getElem?_cons_succ]; rfl) (by rw [← HO.out]; kernel_rfl) (by exact fun w' _ => exec_streq (s := ⟨(fullS 97).1.toArray⟩) rfl (by kernel_rfl) (by kernel_rfl) w') ?_
  try simp (maxSteps := 2000000) only [Act.put, List.getElem_toArray, List.getElem_cons_zero, List.getElem_cons_succ, List.setIfInBounds_toArray, List.set_cons_zero, List.set_cons_succ]
  refine pi_q (v := ?_) (by rw [← HO.out]; simp only [List.getElem?_toArray, List.getElem?_cons_zero, List.getElem?_cons_succ]; rfl) (by rw [← HO.out]; kernel_rfl) ?_ ?_
  rotate_left
  · intro w' hBw'
    first | (go_simp; done) | (go_simp; with_reducible rfl)
  try simp (maxSteps := 2000000) only [Act.put, List.getElem_toArray, List.getElem_cons_zero, List.getElem_cons_succ, List.setIfInBounds_toArray, List.set_cons_zero, List.set_cons_succ]
  refine pi_q (v := ?_) (by rw [← HO.out]; simp only [List.getElem?_toArray, List.getElem?_cons_zero, List.getElem?_cons_succ]; rfl) (by rw [← HO.out]; kernel_rfl) ?_ ?_
  rotate_left
  · intro w' hBw'
    first | (go_simp; done) | (go_simp; with_reducible rfl)
  try simp (maxSteps := 2000000) only [Act.put, List.getElem_toArray, List.getElem_cons_zero, List.getElem_cons_succ, List.setIfInBounds_toArray, List.set_cons_zero, List.set_cons_succ]
  refine pi_q (v := ?_) (by rw [← HO.out]; simp only [List.getElem?_toArray, List.getElem?_cons_zero, List.getElem?_cons_succ]; rfl) (by rw [← HO.out]; kernel_rfl) ?_ ?_
  rotate_left
  · intro w' hBw'
    first | (go_simp; done) | (go_simp; with_reducible rfl)
  try simp (maxSteps := 2000000) only [Act.put, List.getElem_toArray, List.getElem_cons_zero, List.getElem_cons_succ, List.setIfInBounds_toArray, List.set_cons_zero, List.set_cons_succ]
  refine pi_q (v := .string ⟨(fullS 97).1.toArray⟩) (by rw [← HO.out]; simp only [List.getElem?_toArray, List.getElem?_cons_zero, List.getElem?_cons_succ]; rfl) (by rw [← HO.out]; kernel_rfl) (by exact fun w' hb' => exec_str rfl (by kernel_rfl) (T4.up hb')) ?_
  try simp (maxSteps := 2000000) only [Act.put, List.getElem_toArray, List.getElem_cons_zero, List.getElem_cons_succ, List.setIfInBounds_toArray, List.set_cons_zero, List.set_cons_succ]
  refine pi_call (by rw [← HO.out]; simp only [List.getElem?_toArray, List.getElem?_cons_zero, List.getElem?_cons_succ]; rfl) (by rw [← HO.out]; kernel_rfl) (dFullN_c 97 _ rfl _) dEnters_full (by rfl) (by kernel_rfl) ?_
  rintro en wN ⟨rfl, hf4, hb4⟩
  have F4 := sl_of_row hf4
  replace T5 := T5.up hb4
  replace HBc := Lib.hid (below_up HBc.out hb4)
  refine ⟨_, rfl, hb4, ?_⟩
  try simp (maxSteps := 2000000) only [Act.put, List.getElem_toArray, List.getElem_cons_zero, List.getElem_cons_succ, List.setIfInBounds_toArray, List.set_cons_zero, List.set_cons_succ]
  refine pi_q (v := .string ⟨(fullS 97).1.toArray⟩) (by rw [← HO.out]; simp only [List.getElem?_toArray, List.getElem?_cons_zero, List.getElem?_cons_succ]; rfl) (by rw [← HO.out]; kernel_rfl) (by exact fun w' hb' => exec_str rfl (by kernel_rfl) (F4.up hb')) ?_
  try simp (maxSteps := 2000000) only [Act.put, List.getElem_toArray, List.getElem_cons_zero, List.getElem_cons_succ, List.setIfInBounds_toArray, List.set_cons_zero, List.set_cons_succ]
  refine pi_q (v := .bool true) (by rw [← HO.out]; simp only [List.getElem?_toArray, List.getElem?_cons_zero, List.getElem?_cons_succ]; rfl) (by rw [← HO.out]; kernel_rfl) (by exact fun w' _ => exec_streq (s := ⟨(fullS 97).1.toArray⟩) rfl (by kernel_rfl) (by kernel_rfl) w') ?_
  try simp (maxSteps := 2000000) only [Act.put, List.getElem_toArray, List.getElem_cons_zero, List.getElem_cons_succ, List.setIfInBounds_toArray, List.set_cons_zero, List.set_cons_succ]
  refine pi_q (v := ?_) (by rw [← HO.out]; simp only [List.getElem?_toArray, List.getElem?_cons_zero, List.getElem?_cons_succ]; rfl) (by rw [← HO.out]; kernel_rfl) ?_ ?_
  rotate_left
  · intro w' hBw'
    first | (go_simp; done) | (go_simp; with_reducible rfl)
  try simp (maxSteps := 2000000) only [Act.put, List.getElem_toArray, List.getElem_cons_zero, List.getElem_cons_succ, List.setIfInBounds_toArray, List.set_cons_zero, List.set_cons_succ]
  refine pi_q (v := ?_) (by rw [← HO.out]; simp only [List.getElem?_toArray, List.getElem?_cons_zero, List.getElem?_cons_succ]; rfl) (by rw [← HO.out]; kernel_rfl) ?_ ?_
  rotate_left
  · intro w' hBw'
    first | (go_simp; done) | (go_simp; with_reducible rfl)
  try simp (maxSteps := 2000000) only [Act.put, List.getElem_toArray, List.getElem_cons_zero, List.getElem_cons_succ, List.setIfInBounds_toArray, List.set_cons_zero, List.set_cons_succ]
  refine pi_q (v := ?_) (by rw [← HO.out]; simp only [List.getElem?_toArray, List.getElem?_cons_zero, List.getElem?_cons_succ]; rfl) (by rw [← HO.out]; kernel_rfl) ?_ ?_
  rotate_left
  · intro w' hBw'
    first | (go_simp; done) | (go_simp; with_reducible rfl)
  try simp (maxSteps := 2000000) only [Act.put, List.getElem_toArray, List.getElem_cons_zero, List.getElem_cons_succ, List.setIfInBounds_toArray, List.set_cons_zero, List.set_cons_succ]
  refine pi_q (v := .string ⟨(fullS 99).1.toArray⟩) (by rw [← HO.out]; simp only [List.getElem?_toArray, List.getElem?_cons_zero, List.getElem?_cons_succ]; rfl) (by rw [← HO.out]; kernel_rfl) (by exact fun w' hb' => exec_str rfl (by kernel_rfl) (T5.up hb')) ?_
  try simp (maxSteps := 2000000) only [Act.put, List.getElem_toArray, List.getElem_cons_zero, List.getElem_cons_succ, List.setIfInBounds_toArray, List.set_cons_zero, List.set_cons_succ]
  refine pi_call (by rw [← HO.out]; simp only [List.getElem?_toArray, List.getElem?_cons_zero, List.getElem?_cons_succ]; rfl) (by rw [← HO.out]; kernel_rfl) (dFullN_c 99 _ rfl _) dEnters_full (by rfl) (by kernel_rfl) ?_
  rintro en wN ⟨rfl, hf5, hb5⟩
  have F5 := sl_of_row hf5
  replace HBc := Lib.hid (below_up HBc.out hb5)
  refine ⟨_, rfl, hb5, ?_⟩
  try simp (maxSteps := 2000000) only [Act.put, List.getElem_toArray, List.getElem_cons_zero, List.getElem_cons_succ, List.setIfInBounds_toArray, List.set_cons_zero, List.set_cons_succ]
  refine pi_q (v := .string ⟨(fullS 99).1.toArray⟩) (by rw [← HO.out]; simp only [List.getElem?_toArray, List.getElem?_cons_zero, List.getElem?_cons_succ]; rfl) (by rw [← HO.out]; kernel_rfl) (by exact fun w' hb' => exec_str rfl (by kernel_rfl) (F5.up hb')) ?_
  try simp (maxSteps := 2000000) only [Act.put, List.getElem_toArray, List.getElem_cons_zero, List.getElem_cons_succ, List.setIfInBounds_toArray, List.set_cons_zero, List.set_cons_succ]
  refine pi_q (v := .bool true) (by rw [← HO.out]; simp only [List.getElem?_toArray, List.getElem?_cons_zero, List.getElem?_cons_succ]; rfl) (by rw [← HO.out]; kernel_rfl) (by exact fun w' _ => exec_streq (s := ⟨(fullS 99).1.toArray⟩) rfl (by kernel_rfl) (by kernel_rfl) w') ?_
  try simp (maxSteps := 2000000) only [Act.put, List.getElem_toArray, List.getElem_cons_zero, List.getElem_cons_succ, List.setIfInBounds_toArray, List.set_cons_zero, List.set_cons_succ]
  refine pi_q (v := ?_) (by rw [← HO.out]; simp only [List.getElem?_toArray, List.getElem?_cons_zero, List.getElem?_cons_succ]; rfl) (by rw [← HO.out]; kernel_rfl) ?_ ?_
  rotate_left
  · intro w' hBw'
    first | (go_simp; done) | (go_simp; with_reducible rfl)
  try simp (maxSteps := 2000000) only [Act.put, List.getElem_toArray, List.getElem_cons_zero, List.getElem_cons_succ, List.setIfInBounds_toArray, List.set_cons_zero, List.set_cons_succ]
  refine pi_q (v := ?_) (by rw [← HO.out]; simp only [List.getElem?_toArray, List.getElem?_cons_zero, List.getElem?_cons_succ]; rfl) (by rw [← HO.out]; kernel_rfl) ?_ ?_
  rotate_left
  · intro w' hBw'
    first | (go_simp; done) | (go_simp; with_reducible rfl)
  try simp (maxSteps := 2000000) only [Act.put, List.getElem_toArray, List.getElem_cons_zero, List.getElem_cons_succ, List.setIfInBounds_toArray, List.set_cons_zero, List.set_cons_succ]
  refine pi_q (v := ?_) (by rw [← HO.out]; simp only [List.getElem?_toArray, List.getElem?_cons_zero, List.getElem?_cons_succ]; rfl) (by rw [← HO.out]; kernel_rfl) ?_ ?_
  rotate_left
  · intro w' hBw'
    first | (go_simp; done) | (go_simp; with_reducible rfl)
  try simp (maxSteps := 2000000) only [Act.put, List.getElem_toArray, List.getElem_cons_zero, List.getElem_cons_succ, List.setIfInBounds_toArray, List.set_cons_zero, List.set_cons_succ]
  refine pi_call (by rw [← HO.out]; simp only [List.getElem?_toArray, List.getElem?_cons_zero, List.getElem?_cons_succ]; rfl) (by rw [← HO.out]; kernel_rfl) (dNum_c 190 _) dEnters_num (by rfl) (by kernel_rfl) ?_
  rintro en wN ⟨rfl, rfl⟩
  refine ⟨_, rfl, (Below.refl _ _), ?_⟩
  try simp (maxSteps := 2000000) only [Act.put, List.getElem_toArray, List.getElem_cons_zero, List.getElem_cons_succ, List.setIfInBounds_toArray, List.set_cons_zero, List.set_cons_succ]
  refine pi_q (v := ?_) (by rw [← HO.out]; simp only [List.getElem?_toArray, List.getElem?_cons_zero, List.getElem?_cons_succ]; rfl) (by rw [← HO.out]; kernel_rfl) ?_ ?_
  rotate_left
  · intro w' hBw'
    first | (go_simp; done) | (go_simp; with_reducible rfl)
  try simp (maxSteps := 2000000) only [Act.put, List.getElem_toArray, List.getElem_cons_zero, List.getElem_cons_succ, List.setIfInBounds_toArray, List.set_cons_zero, List.set_cons_succ]
  refine pi_q (v := ?_) (by rw [← HO.out]; simp only [List.getElem?_toArray, List.getElem?_cons_zero, List.getElem?_cons_succ]; rfl) (by rw [← HO.out]; kernel_rfl) ?_ ?_
  rotate_left
  · intro w' hBw'
    first | (go_simp; done) | (go_simp; with_reducible rfl)
  try simp (maxSteps := 2000000) only [Act.put, List.getElem_toArray, List.getElem_cons_zero, List.getElem_cons_succ, List.setIfInBounds_toArray, List.set_cons_zero, List.set_cons_succ]
  refine pi_q (v := ?_) (by rw [← HO.out]; simp only [List.getElem?_toArray, List.getElem?_cons_zero, List.getElem?_cons_succ]; rfl) (by rw [← HO.out]; kernel_rfl) ?_ ?_
  rotate_left
  · intro w' hBw'
    first | (go_simp; done) | (go_simp; with_reducible rfl)
  try simp (maxSteps := 2000000) only [Act.put, List.getElem_toArray, List.getElem_cons_zero, List.getElem_cons_succ, List.setIfInBounds_toArray, List.set_cons_zero, List.set_cons_succ]
  refine pi_q (v := ?_) (by rw [← HO.out]; simp only [List.getElem?_toArray, List.getElem?_cons_zero, List.getElem?_cons_succ]; rfl) (by rw [← HO.out]; kernel_rfl) ?_ ?_
  rotate_left
  · intro w' hBw'
    first | (go_simp; done) | (go_simp; with_reducible rfl)
  try simp (maxSteps := 2000000) only [Act.put, List.getElem_toArray, List.getElem_cons_zero, List.getElem_cons_succ, List.setIfInBounds_toArray, List.set_cons_zero, List.set_cons_succ]
  refine pi_call (by rw [← HO.out]; simp only [List.getElem?_toArray, List.getElem?_cons_zero, List.getElem?_cons_succ]; rfl) (by rw [← HO.out]; kernel_rfl) (dNum_c 4 _) dEnters_num (by rfl) (by kernel_rfl) ?_
  rintro en wN ⟨rfl, rfl⟩
  refine ⟨_, rfl, (Below.refl _ _), ?_⟩
  try simp (maxSteps := 2000000) only [Act.put, List.getElem_toArray, List.getElem_cons_zero, List.getElem_cons_succ, List.setIfInBounds_toArray, List.set_cons_zero, List.set_cons_succ]
  refine pi_q (v := ?_) (by rw [← HO.out]; simp only [List.getElem?_toArray, List.getElem?_cons_zero, List.getElem?_cons_succ]; rfl) (by rw [← HO.out]; kernel_rfl) ?_ ?_
  rotate_left
  · intro w' hBw'
    first | (go_simp; done) | (go_simp; with_reducible rfl)
  try simp (maxSteps := 2000000) only [Act.put, List.getElem_toArray, List.getElem_cons_zero, List.getElem_cons_succ, List.setIfInBounds_toArray, List.set_cons_zero, List.set_cons_succ]
  refine pi_q (v := ?_) (by rw [← HO.out]; simp only [List.getElem?_toArray, List.getElem?_cons_zero, List.getElem?_cons_succ]; rfl) (by rw [← HO.out]; kernel_rfl) ?_ ?_
  rotate_left
  · intro w' hBw'
    first | (go_simp; done) | (go_simp; with_reducible rfl)
  try simp (maxSteps := 2000000) only [Act.put, List.getElem_toArray, List.getElem_cons_zero, List.getElem_cons_succ, List.setIfInBounds_toArray, List.set_cons_zero, List.set_cons_succ]
  refine pi_q (v := ?_) (by rw [← HO.out]; simp only [List.getElem?_toArray, List.getElem?_cons_zero, List.getElem?_cons_succ]; rfl) (by rw [← HO.out]; kernel_rfl) ?_ ?_
  rotate_left
  · intro w' hBw'
    first | (go_simp; done) | (go_simp; with_reducible rfl)
  try simp (maxSteps := 2000000) only [Act.put, List.getElem_toArray, List.getElem_cons_zero, List.getElem_cons_succ, List.setIfInBounds_toArray, List.set_cons_zero, List.set_cons_succ]
  refine pi_q (v := ?_) (by rw [← HO.out]; simp only [List.getElem?_toArray, List.getElem?_cons_zero, List.getElem?_cons_succ]; rfl) (by rw [← HO.out]; kernel_rfl) ?_ ?_
  rotate_left
  · intro w' hBw'
    first | (go_simp; done) | (go_simp; with_reducible rfl)
  try simp (maxSteps := 2000000) only [Act.put, List.getElem_toArray, List.getElem_cons_zero, List.getElem_cons_succ, List.setIfInBounds_toArray, List.set_cons_zero, List.set_cons_succ]
  refine pi_call (by rw [← HO.out]; simp only [List.getElem?_toArray, List.getElem?_cons_zero, List.getElem?_cons_succ]; rfl) (by rw [← HO.out]; kernel_rfl) (dNum_c 2 _) dEnters_num (by rfl) (by kernel_rfl) ?_
  rintro en wN ⟨rfl, rfl⟩
  refine ⟨_, rfl, (Below.refl _ _), ?_⟩
  try simp (maxSteps := 2000000) only [Act.put, List.getElem_toArray, List.getElem_cons_zero, List.getElem_cons_succ, List.setIfInBounds_toArray, List.set_cons_zero, List.set_cons_succ]
  refine pi_q (v := ?_) (by rw [← HO.out]; simp only [List.getElem?_toArray, List.getElem?_cons_zero, List.getElem?_cons_succ]; rfl) (by rw [← HO.out]; kernel_rfl) ?_ ?_
  rotate_left
  · intro w' hBw'
    first | (go_simp; done) | (go_simp; with_reducible rfl)
  try simp (maxSteps := 2000000) only [Act.put, List.getElem_toArray, List.getElem_cons_zero, List.getElem_cons_succ, List.setIfInBounds_toArray, List.set_cons_zero, List.set_cons_succ]
  refine pi_q (v := ?_) (by rw [← HO.out]; simp only [List.getElem?_toArray, List.getElem?_cons_zero, List.getElem?_cons_succ]; rfl) (by rw [← HO.out]; kernel_rfl) ?_ ?_
  rotate_left
  · intro w' hBw'
    first | (go_simp; done) | (go_simp; with_reducible rfl)
  try simp (maxSteps := 2000000) only [Act.put, List.getElem_toArray, List.getElem_cons_zero, List.getElem_cons_succ, List.setIfInBounds_toArray, List.set_cons_zero, List.set_cons_succ]
  refine pi_q (v := ?_) (by rw [← HO.out]; simp only [List.getElem?_toArray, List.getElem?_cons_zero, List.getElem?_cons_succ]; rfl) (by rw [← HO.out]; kernel_rfl) ?_ ?_
  rotate_left
  · intro w' hBw'
    first | (go_simp; done) | (go_simp; with_reducible rfl)
  try simp (maxSteps := 2000000) only [Act.put, List.getElem_toArray, List.getElem_cons_zero, List.getElem_cons_succ, List.setIfInBounds_toArray, List.set_cons_zero, List.set_cons_succ]
  refine pi_nil ?_
  go_wp2
  go_ret
  exact ⟨rfl, HBc.out⟩
end Go.Proofs.Ytekpjbablcoahaa
