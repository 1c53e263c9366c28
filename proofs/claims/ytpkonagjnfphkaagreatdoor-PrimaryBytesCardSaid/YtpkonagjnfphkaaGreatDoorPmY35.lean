/-
  NmRo: several texts in one (bundle.py).
-/
import Derived.Test.YtpkonagjnfphkaaGreatDoorPmY22
import Derived.Test.YtpkonagjnfphkaaGreatDoorPmY21
set_option linter.unusedSimpArgs false
set_option linter.unusedVariables false
set_option maxRecDepth 100000
set_option maxHeartbeats 8000000
namespace Go.Proofs.YtpkonagjnfphkaaGreatDoor
open Go.RowKit Trc Cb
abbrev rofV (x : It) : Value := .tuple #[epV (if okE x then ofA x else 0) (if okE x then ofB x else 0), .bool (okE x)]
theorem shB_two {x : It} {a b : Int} (h : shB x [a, b] = true) : ∃ y0 y1, x.l = [y0, y1] ∧ y0.k = a ∧ y1.k = b := by
  unfold shB at h; rw [Bool.and_eq_true] at h; have h2 := eq_of_beq h.2
  match hx : x.l with
  | [] => rw [hx] at h2; simp at h2
  | [y] => rw [hx] at h2; simp at h2
  | [y0, y1] => rw [hx] at h2; simp at h2; exact ⟨y0, y1, rfl, h2.1, h2.2⟩
  | y0 :: y1 :: y2 :: r => rw [hx] at h2; simp at h2
theorem far_num {x y0 y1 z0 z1 : It} (h0 : ∃ n m : Nat, n ≠ 0 ∧ n < 4294967296 ∧ m < 4294967296 ∧ x = epI n m ∧ ofA x = n ∧ ofB x = m) (hl : x.l = [y0, y1]) (hl1 : y1.l = [z0, z1]) : ∃ n m : Nat, z0.n = n ∧ z1.n = m ∧ n ≠ 0 ∧ n < 4294967296 ∧ m < 4294967296 ∧ x = epI n m := by
  obtain ⟨n, m, hn0, hn, hm, rfl, _, _⟩ := h0; have h2 := (ep_shape (m := m) hn0).2.1; rw [hl] at h2; simp only [List.getElem?_cons_succ, List.getElem?_cons_zero, Option.some.injEq] at h2; subst h2; have h3 : (lI [uI n, uI m]).l = [uI n, uI m] := rfl; rw [h3] at hl1; simp only [List.cons.injEq, and_true] at hl1; obtain ⟨rfl, rfl⟩ := hl1; exact ⟨n, m, rfl, rfl, hn0, hn, hm, rfl⟩
theorem far_sh3 {x y0 y1 : It} (h0 : ∃ n m : Nat, n ≠ 0 ∧ n < 4294967296 ∧ m < 4294967296 ∧ x = epI n m ∧ ofA x = n ∧ ofB x = m) (hl : x.l = [y0, y1]) : shB y1 [1, 1] = true := by
  obtain ⟨n, m, hn0, hn, hm, rfl, _, _⟩ := h0; have h2 := (ep_shape (m := m) hn0).2.1; rw [hl] at h2; simp only [List.getElem?_cons_succ, List.getElem?_cons_zero, Option.some.injEq] at h2; subst h2; exact (ep_shape (m := m) hn0).2.2
theorem rOf_c (x : It) (r : Rw) (w : World) (hx : ItR (fun k => k < w.heap.size) w x r) (hcx : Cb.cnt x ≤ 1000000) : Calls Tryz.prog 69 #[rwV r] w (Ret (rofV x) w) := by
  obtain ⟨k1, n1, ba1, bn1, bc1, s1, la1, ln1, lc1, rfl⟩ := hx.shape; obtain ⟨rows, p⟩ := hx.parts; obtain ⟨W0, hW0⟩ : ∃ W, W = (w.alloc (.cells (rwC ⟨k1, n1, .slice ba1 bn1 bc1, s1, .slice la1 ln1 lc1⟩).toArray 62)).alloc (.cells #[.int .u32 0, .int .u32 0] 25) := ⟨_, rfl⟩
  have hb0 : Below w.heap.size w W0 := by rw [hW0]; exact (below_alloc w _).alloc (by simp) _
  have hs0 : W0.heap.size = w.heap.size + 2 := by rw [hW0]; simp
  have X0 : RowAt W0 w.heap.size (rwC ⟨k1, n1, .slice ba1 bn1 bc1, s1, .slice la1 ln1 lc1⟩).toArray 62 := by
    rw [hW0]; exact (RowAt.new w _ _).below (below_alloc _ _)
  have Z0 : RowAt W0 (w.heap.size + 1) #[.int .u32 0, .int .u32 0] 25 := by
    rw [hW0]; have := RowAt.new (w.alloc (.cells (rwC ⟨k1, n1, .slice ba1 bn1 bc1, s1, .slice la1 ln1 lc1⟩).toArray 62)) #[.int .u32 0, .int .u32 0] 25
    rwa [World.size_alloc] at this
  by_cases h0 : sameB x (epI 0 0) = true
  · have hxe := (sameB_iff x _).1 h0
    have hok := okE_mk (n := 0) (m := 0) (by decide) (by decide) rfl
    have hv : rofV x = .tuple #[epV 0 0, .bool true] := by
      unfold rofV; rw [hxe, hok.1, hok.2.1, hok.2.2]; rfl
    rw [hv]
    have hsame := fun v (W : World) (h : ItR (fun k => k < W.heap.size) W x ⟨k1, n1, .slice ba1 bn1 bc1, s1, .slice la1 ln1 lc1⟩) (hi : ItR (fun k => k < W.heap.size) W (epI 0 0) v) => sameR_c (fun k => k < W.heap.size) x (epI 0 0) ⟨k1, n1, .slice ba1 bn1 bc1, s1, .slice la1 ln1 lc1⟩ v W h hi hcx (by decide)
    rw [h0] at hsame; have HSA := Lib.hid hsame; have HX := Lib.hid (hx.up hb0); have HB0 := Lib.hid hb0; have HS0 := Lib.hid hs0; have HZ0 := Lib.hid Z0; have HX0 := Lib.hid X0; have HW0 := Lib.hid hW0; have HRI := Lib.hid (fun (W : World) => rItem_c 0 0 (by decide) (by decide) (fun _ => rfl) W); clear hsame hx hb0 hs0 Z0 X0 p hcx hxe hok hv h0 hW0; go_enter Tryz.func69, Tryz.ntmps69; go_wp2; refine wp_region_pt (fun _ => False) (.q 0 (.q 1 (.c 2 (.c 3 .done)))) (by kernel_rfl) (by kernel_rfl) (by kernel_rfl) (by decide) (fun _ _ d _ _ h => by cases d <;> exact h) (fun Wd hBd => ?_)
    try simp only [zq]
    have hBd0 := hBd; rw [HW0.out.symm] at hBd0; have X1 := HX0.out.below hBd0; have b0 := X1.cell (i := 0) rfl; have b1 := X1.cell (i := 1) rfl; have b2 := X1.cell (i := 2) rfl; have b3 := X1.cell (i := 3) rfl; have b4 := X1.cell (i := 4) rfl; refine pt_q (v := ?_) rfl (by rfl) ?_ ?_; rotate_left
    · intro w' hBw'
      have qL0 := hBw'.cell b0 (fun e => e); have qL1 := hBw'.cell b1 (fun e => e); have qL2 := hBw'.cell b2 (fun e => e); have qL3 := hBw'.cell b3 (fun e => e); have qL4 := hBw'.cell b4 (fun e => e)
      first | (go_simp; done) | (go_simp; with_reducible rfl)
    try simp only [zq]
    refine zt rfl (by rfl) ?_
    refine zc fun K hK => ?_
    go_simp; refine (HRI.out _).mono ?_; rintro en v2 ⟨hb8, r9, rfl, hi9⟩; obtain ⟨k9, n9, ba9, bn9, bc9, s9, la9, ln9, lc9, rfl⟩ := hi9.shape; refine hK.out _ _ (But.of_below hb8) ?_; clear hK K
    try simp only [zq]
    refine zc fun K hK => ?_
    go_simp; have hz8 := hb8.size; have hzd := hBd0.size; have hz0 := HB0.out.size; refine (HSA.out _ v2 (((HX.out.up hBd0).up hb8).mono (fun k e => by omega)) (hi9.mono (fun k e => e.2))).mono ?_; rintro en v3 ⟨rfl, hb9⟩; refine hK.out _ _ (But.of_below hb9) ?_; clear hK K
    try simp only [zq]
    have Z3 := ((HZ0.out.below hBd0).below hb8).below hb9; have z0 := Z3.cell (i := 0) rfl; have z1 := Z3.cell (i := 1) rfl; have f0 := Z3.fz 0; have f1 := Z3.fz 1; have hE := ((But.of_below (O := fun k => w.heap.size ≤ k) HB0.out).trans (But.of_below hBd0)).trans ((But.of_below hb8).trans (But.of_below hb9)); clear b0 b1 b2 b3 b4; refine pt_done ?_; go_wp2; have hZ := (Z3.set 0 (.int .u32 0)).set 1 (.int .u32 0); have g0 := RowAt.cell hZ (i := 0) (v := .int .u32 0) rfl; have g1 := RowAt.cell hZ (i := 1) (v := .int .u32 0) rfl; refine bodyPost_ret (v := .tuple #[epV 0 0, .bool true]) (by simp [results, Tryz.results69, go_sem, g0, g1]) rfl ?_; exact ⟨rfl, But.below (O := fun k => w.heap.size ≤ k) (hE.trans ((But.setCell _ _ _ (by simp)).trans (But.setCell _ _ _ (by simp)))) (fun k e => e) (Nat.le_refl _)⟩
  · have h0f : sameB x (epI 0 0) = false := by simpa using h0
    have hrv : okE x = false → rofV x = .tuple #[epV 0 0, .bool false] := fun h => by unfold rofV; rw [h]; rfl
    have hsame := fun v (W : World) (h : ItR (fun k => k < W.heap.size) W x ⟨k1, n1, .slice ba1 bn1 bc1, s1, .slice la1 ln1 lc1⟩) (hi : ItR (fun k => k < W.heap.size) W (epI 0 0) v) => sameR_c (fun k => k < W.heap.size) x (epI 0 0) ⟨k1, n1, .slice ba1 bn1 bc1, s1, .slice la1 ln1 lc1⟩ v W h hi hcx (by decide)
    rw [h0f] at hsame; have HSA := Lib.hid hsame; have HX := Lib.hid (hx.up hb0); have HB0 := Lib.hid hb0; have HS0 := Lib.hid hs0; have HZ0 := Lib.hid Z0; have HX0 := Lib.hid X0; have HW0 := Lib.hid hW0; have HCX := Lib.hid hcx; have HRI := Lib.hid (fun (W : World) => rItem_c 0 0 (by decide) (by decide) (fun _ => rfl) W); have HFAR := Lib.hid (fun h : okE x = true => okE_far h0f h); clear hsame hx hb0 hs0 Z0 X0 hcx h0 h0f hW0; have HCX0 := HCX.out; obtain ⟨R, hR⟩ : ∃ R, R = rofV x := ⟨_, rfl⟩; rw [← hR]; have HNO := Lib.hid (fun h : okE x = false => show R = .tuple #[epV 0 0, .bool false] by rw [hR, hrv h])
    have HYES := Lib.hid (fun (n m : Nat) (h : okE x = true ∧ ofA x = n ∧ ofB x = m) => show R = .tuple #[epV n m, .bool true] by
      rw [hR]; unfold rofV; rw [h.1, h.2.1, h.2.2]; rfl)
    clear hrv hR p HCX0; go_enter Tryz.func69, Tryz.ntmps69; go_wp2; refine wp_region_pt (fun _ => False) (.q 0 (.q 1 (.c 2 (.c 3 .done)))) (by kernel_rfl) (by kernel_rfl) (by kernel_rfl) (by decide) (fun _ _ d _ _ h => by cases d <;> exact h) (fun Wd hBd => ?_)
    try simp only [zq]
    have hBd0 := hBd; rw [HW0.out.symm] at hBd0; have X1 := HX0.out.below hBd0; have b0 := X1.cell (i := 0) rfl; have b1 := X1.cell (i := 1) rfl; have b2 := X1.cell (i := 2) rfl; have b3 := X1.cell (i := 3) rfl; have b4 := X1.cell (i := 4) rfl; refine pt_q (v := ?_) rfl (by rfl) ?_ ?_; rotate_left
    · intro w' hBw'
      have qL0 := hBw'.cell b0 (fun e => e); have qL1 := hBw'.cell b1 (fun e => e); have qL2 := hBw'.cell b2 (fun e => e); have qL3 := hBw'.cell b3 (fun e => e); have qL4 := hBw'.cell b4 (fun e => e)
      first | (go_simp; done) | (go_simp; with_reducible rfl)
    try simp only [zq]
    refine zt rfl (by rfl) ?_
    refine zc fun K hK => ?_
    go_simp; refine (HRI.out _).mono ?_; rintro en v2 ⟨hb8, r9, rfl, hi9⟩; obtain ⟨k9, n9, ba9, bn9, bc9, s9, la9, ln9, lc9, rfl⟩ := hi9.shape; refine hK.out _ _ (But.of_below hb8) ?_; clear hK K
    try simp only [zq]
    refine zc fun K hK => ?_
    go_simp; have hz8 := hb8.size; have hzd := hBd0.size; have hz0 := HB0.out.size; refine (HSA.out _ v2 (((HX.out.up hBd0).up hb8).mono (fun k e => by omega)) (hi9.mono (fun k e => e.2))).mono ?_; rintro en v3 ⟨rfl, hb9⟩; refine hK.out _ _ (But.of_below hb9) ?_; clear hK K
    try simp only [zq]
    have Z3 := ((HZ0.out.below hBd0).below hb8).below hb9; have z0 := Z3.cell (i := 0) rfl; have z1 := Z3.cell (i := 1) rfl; have f0 := Z3.fz 0; have f1 := Z3.fz 1; have hE := ((But.of_below (O := fun k => w.heap.size ≤ k) HB0.out).trans (But.of_below hBd0)).trans ((But.of_below hb8).trans (But.of_below hb9)); have X3 := (X1.below hb8).below hb9; clear b0 b1 b2 b3 b4; have b0 := X3.cell (i := 0) rfl; have b1 := X3.cell (i := 1) rfl; have b2 := X3.cell (i := 2) rfl; have b3 := X3.cell (i := 3) rfl; have b4 := X3.cell (i := 4) rfl; have hx3 := ((HX.out.up hBd0).up hb8).up hb9; refine pt_done ?_; have HSH := Lib.hid (fun (y : It) (r : Rw) (K : List Int) (v : Value) (W : World) (h : ItR (fun k => k < W.heap.size) W y r) (hu : Sl W 1 v 2 (K.map (.int .i64))) (hc : Cb.cnt y ≤ 1000000) => shapeR_c (fun k => k < W.heap.size) y K r v 2 W h hu hc); have HZS := Lib.hid (show w.heap.size + 2 ≤ v3.heap.size by have h1 := hBd0.size; have h2 := hb8.size; have h3 := hb9.size; have h4 := HB0.out.size; have h5 := HS0.out; omega)
    obtain ⟨rows, p⟩ := hx3.parts; have hq := below_alloc v3 (.cells #[.int .i64 1, .int .i64 4] 3); have hu : Sl (v3.alloc (.cells #[.int .i64 1, .int .i64 4] 3)) 1 (.slice (some ⟨v3.heap.size, 0, none⟩) 2 2) 2 (([1, 4] : List Int).map (.int .i64)) := Sl.of_own (World.ownsRow_lit v3 #[.int .i64 1, .int .i64 4] 2 (size := 1) (e := 3) (Nat.le_refl _) (by decide) rfl); have hsh := HSH.out x ⟨k1, n1, .slice ba1 bn1 bc1, s1, .slice la1 ln1 lc1⟩ [1, 4] _ _ ((hx3.up hq).mono (fun k e => by have := HZS.out; simp; omega)) hu HCX.out; have HSW := Lib.hid hsh; have HX3 := Lib.hid hx3; have HP := Lib.hid p; have HU := Lib.hid hu; have HE := Lib.hid hE; clear hsh hx3 p hu hE hb8 hb9 hBd hBd0 X1 HX HSA z0 z1 f0 f1; by_cases h1 : shB x [1, 4] = true
    · by_cases h2 : bareB x = true
      · obtain ⟨y0, y1, hl, hk0, hk1⟩ := shB_two h1
        have hp := HP.out; have he := hp.each; rw [hl] at he; simp only [ItsR] at he; obtain ⟨r0, rs0, rfl, e0, r1, rs1, rfl, e1, rfl⟩ := he; obtain ⟨k2, n2, ba2, bn2, bc2, s2, la2, ln2, lc2, rfl⟩ := e1.shape
        obtain rfl : ln1 = 2 := by obtain ⟨a, c, h⟩ := hp.l.1.len; simp [hl] at h; omega
        have hl5 : Sl v3 5 (.slice la1 2 lc1) 2 ([r0, ⟨k2, n2, .slice ba2 bn2 bc2, s2, .slice la2 ln2 lc2⟩].flatMap rwC) := by have := hp.l.1; rw [hl] at this; exact this
        obtain ⟨b, off, rfl, hr⟩ := hl5.rec_at (cells := rwC) (sz := 5) (fun _ => rfl) (k := 1) (by decide) (by simp); simp only [List.getElem_cons_succ, List.getElem_cons_zero] at hr; have HY := Lib.hid e1; have HR := Lib.hid hr
        have hc1 : Cb.cnt y1 ≤ 1000000 := by have := Cb.cnt_mem (x := x) (y := y1) (by rw [hl]; simp); have := HCX.out; omega
        have HC1 := Lib.hid hc1; have HLX := Lib.hid hl; rw [h1] at HSW
        have HBA := Lib.hid (fun (W : World) (h : ItR (fun k => k < W.heap.size) W x ⟨k1, n1, .slice ba1 bn1 bc1, s1, .slice (some ⟨b, off, none⟩) 2 lc1⟩) => show Calls Tryz.prog 109 #[rwV ⟨k1, n1, .slice ba1 bn1 bc1, s1, .slice (some ⟨b, off, none⟩) 2 lc1⟩] W (Ret (.bool true) W) by
          have := bareR_c (fun k => k < W.heap.size) x ⟨k1, n1, .slice ba1 bn1 bc1, s1, .slice (some ⟨b, off, none⟩) 2 lc1⟩ W h HCX.out; rw [h2] at this
          exact this)
        clear h1 h2 hp e0 e1 hl5 hr hc1 hl HP HU
        go_wp2_with fail
        refine HSW.out.mono ?_; rintro en v5 ⟨rfl, hb5⟩; have D5 := below_up hq hb5; have X5 := X3.below D5; clear b0 b1 b2 b3 b4; have b0 := X5.cell (i := 0) rfl; have b1 := X5.cell (i := 1) rfl; have b2 := X5.cell (i := 2) rfl; have b3 := X5.cell (i := 3) rfl; have b4 := X5.cell (i := 4) rfl; clear hb5
        go_wp2_with fail
        refine (HBA.out v5 ((HX3.out.up D5).mono (fun k e => by have := D5.size; have := HZS.out; omega))).mono ?_; rintro en v6 ⟨rfl, hb6⟩; have D6 := below_up D5 hb6; have X6 := X3.below D6; clear b0 b1 b2 b3 b4 hb6; have b0 := X6.cell (i := 0) rfl; have b1 := X6.cell (i := 1) rfl; have b2 := X6.cell (i := 2) rfl; have b3 := X6.cell (i := 3) rfl; have b4 := X6.cell (i := 4) rfl; have hr6 := rangeAt_up D6 HR.out; have c0 := hr6 0 _ rfl; have c1 := hr6 1 _ rfl; have c2 := hr6 2 _ rfl; have c3 := hr6 3 _ rfl; have c4 := hr6 4 _ rfl; have HR6 := Lib.hid hr6; clear hr6; simp only [Nat.reduceMul, Nat.add_assoc, Nat.reduceAdd] at c0 c1 c2 c3 c4; have hq2 := below_alloc v6 (.cells #[.int .i64 1, .int .i64 1] 3); have hu2 : Sl (v6.alloc (.cells #[.int .i64 1, .int .i64 1] 3)) 1 (.slice (some ⟨v6.heap.size, 0, none⟩) 2 2) 2 (([1, 1] : List Int).map (.int .i64)) := Sl.of_own (World.ownsRow_lit v6 #[.int .i64 1, .int .i64 1] 2 (size := 1) (e := 3) (Nat.le_refl _) (by decide) rfl)
        have hs2 := HSH.out y1 ⟨k2, n2, .slice ba2 bn2 bc2, s2, .slice la2 ln2 lc2⟩ [1, 1] _ _ (((HY.out.up D6).up hq2).mono (fun k e => by have := D6.size; have := HZS.out; simp; omega)) hu2 HC1.out; have HS2 := Lib.hid hs2; clear hs2 hu2; by_cases h3 : shB y1 [1, 1] = true
        · rw [h3] at HS2
          obtain ⟨z0, z1, hl1, hz0, hz1⟩ := shB_two h3; obtain ⟨rows2, q⟩ := HY.out.parts; have hf := q.each; rw [hl1] at hf; simp only [ItsR] at hf; obtain ⟨t0, ts0, rfl, g0, t1, ts1, rfl, g1, rfl⟩ := hf; obtain ⟨k3, n3, ba3, bn3, bc3, s3, la3, ln3, lc3, rfl⟩ := g0.shape; obtain ⟨k4, n4, ba4, bn4, bc4, s4, la4, ln4, lc4, rfl⟩ := g1.shape
          obtain rfl : ln2 = 2 := by obtain ⟨a, c, h⟩ := q.l.1.len; simp [hl1] at h; omega
          have hl6 : Sl v3 5 (.slice la2 2 lc2) 2 ([⟨k3, n3, .slice ba3 bn3 bc3, s3, .slice la3 ln3 lc3⟩, ⟨k4, n4, .slice ba4 bn4 bc4, s4, .slice la4 ln4 lc4⟩].flatMap rwC) := by have := q.l.1; rw [hl1] at this; exact this
          obtain ⟨b', off', rfl, hr0⟩ := hl6.rec_at (cells := rwC) (sz := 5) (fun _ => rfl) (k := 0) (by decide) (by simp); obtain ⟨b'', off'', hbb, hr1⟩ := hl6.rec_at (cells := rwC) (sz := 5) (fun _ => rfl) (k := 1) (by decide) (by simp); cases hbb; simp only [List.getElem_cons_succ, List.getElem_cons_zero] at hr0 hr1; have d0 := hr0 1 _ rfl; have d1 := hr1 1 _ rfl; simp only [Nat.reduceMul, Nat.add_assoc, Nat.reduceAdd] at d0 d1; obtain ⟨p0, q0⟩ := g0.parts; obtain ⟨p1, q1⟩ := g1.parts; have hn3 := q0.n; have hn3l := q0.lo; have hn3h := q0.hi; have hn4 := q1.n; have hn4l := q1.lo; have hn4h := q1.hi; simp only at hn3 hn4; rw [← hn3] at hn3l hn3h; rw [← hn4] at hn4l hn4h; obtain ⟨n, rfl⟩ : ∃ n : Nat, n3 = n := ⟨n3.toNat, by omega⟩; obtain ⟨m, rfl⟩ : ∃ m : Nat, n4 = m := ⟨n4.toNat, by omega⟩; have HD0 := Lib.hid d0; have HD1 := Lib.hid d1
          have HQ := Lib.hid (fun h : okE x = true => show n ≠ 0 ∧ n < 4294967296 ∧ m < 4294967296 ∧ x = epI n m by
            obtain ⟨n', m', e1, e2, e3, e4, e5, e6⟩ := far_num (HFAR.out h) HLX.out hl1; rw [← hn3] at e1; rw [← hn4] at e2
            obtain rfl : n = n' := by omega
            obtain rfl : m = m' := by omega
            exact ⟨e3, e4, e5, e6⟩)
          have HN := Lib.hid (show n ≤ 18446744073709551615 ∧ m ≤ 18446744073709551615 by omega); clear h3 q hl1 hz0 hz1 g0 g1 hl6 hr0 hr1 d0 d1 q0 q1 hn3 hn4 hn3l hn3h hn4l hn4h p0 p1
          go_wp2_with fail
          refine HS2.out.mono ?_; rintro en v8 ⟨rfl, hb8⟩; have D8 := below_up D6 (below_up hq2 hb8); clear b0 b1 b2 b3 b4 c0 c1 c2 c3 c4 hb8; have X8 := X3.below D8; have b4 := X8.cell (i := 4) (v := .slice (some ⟨b, off, none⟩) 2 lc1) rfl; have hr8 := rangeAt_up D8 HR.out; have c4 := hr8 4 _ rfl; simp only [Nat.reduceMul, Nat.add_assoc, Nat.reduceAdd] at c4; have e0 := cell_up D8 HD0.out; have e1 := cell_up D8 HD1.out; clear hr8; go_wp2; refine wp_region_pt (fun _ => False) (.q 0 (.q 1 (.q 2 (.q 3 (.q 4 (.q 5 (.q 6 (.q 7 (.q 8 (.q 9 (.q 10 (.q 11 (.q 12 (.q 13 (.q 14 (.q 15 (.q 16 (.q 17 .done)))))))))))))))))) (by kernel_rfl) (by kernel_rfl) (by kernel_rfl) (by decide) (fun _ _ d _ _ h => by cases d <;> exact h) (fun Wd hBd => ?_)
          try simp only [zq]
          replace b4 := cell_up hBd b4; replace c4 := cell_up hBd c4; replace e0 := cell_up hBd e0; replace e1 := cell_up hBd e1; refine zt rfl (by rfl) ?_; refine ztg rfl (by rfl) (fun w' hBw' => hBw'.cell b4 (fun e => e)) ?_; refine zt rfl (by rfl) ?_; refine zt rfl (by rfl) ?_; refine ztg rfl (by rfl) (fun w' hBw' => hBw'.cell c4 (fun e => e)) ?_; refine zt rfl (by rfl) ?_; refine zt rfl (by rfl) ?_; refine ztg rfl (by rfl) (fun w' hBw' => hBw'.cell e0 (fun e => e)) ?_; refine zt rfl (by rfl) ?_; refine ztg rfl (by rfl) (fun w' hBw' => hBw'.cell b4 (fun e => e)) ?_; refine zt rfl (by rfl) ?_; refine zt rfl (by rfl) ?_; refine ztg rfl (by rfl) (fun w' hBw' => hBw'.cell c4 (fun e => e)) ?_; refine zt rfl (by rfl) ?_; refine zt rfl (by rfl) ?_; refine ztg rfl (by rfl) (fun w' hBw' => hBw'.cell e1 (fun e => e)) ?_; refine zt rfl (by rfl) ?_; refine zt rfl (by rfl) ?_; refine pt_done ?_; have D9 := below_up D8 hBd
          have hnm := HN.out; have X9 := X3.below D9; have Z9 := Z3.below D9; clear b4 c4 e0 e1; by_cases hn1 : n = 0 ∨ 4294967295 < n ∨ 4294967295 < m
          · have hno : okE x = false := by
              rw [Bool.eq_false_iff]; intro hk; have := HQ.out hk; omega
            have HRF := Lib.hid (HNO.out hno); clear hno; have z0 := Z9.cell (i := 0) rfl; have z1 := Z9.cell (i := 1) rfl; have f0 := Z9.fz 0; have f1 := Z9.fz 1; have D6 := D9; have Z6 := Z9; by_cases ha : n = 0
            · subst ha
              go_wp2; have hZ := (Z6.set 0 (.int .u32 0)).set 1 (.int .u32 0); have g0 := RowAt.cell hZ (i := 0) (v := .int .u32 0) rfl; have g1 := RowAt.cell hZ (i := 1) (v := .int .u32 0) rfl; refine bodyPost_ret (v := .tuple #[epV 0 0, .bool false]) (by simp [results, Tryz.results69, go_sem, g0, g1]) rfl ?_; exact ⟨by rw [HRF.out], But.below (O := fun k => w.heap.size ≤ k) (HE.out.trans ((But.of_below D6).trans ((But.setCell _ _ _ (by simp)).trans (But.setCell _ _ _ (by simp))))) (fun k e => e) (Nat.le_refl _)⟩
            · have hb : ¬ (n : Int) < 1 := by omega
              by_cases hc : 4294967295 < n
              · have hd : (4294967295 : Int) < n := by omega
                go_wp2; have hZ := (Z6.set 0 (.int .u32 0)).set 1 (.int .u32 0); have g0 := RowAt.cell hZ (i := 0) (v := .int .u32 0) rfl; have g1 := RowAt.cell hZ (i := 1) (v := .int .u32 0) rfl; refine bodyPost_ret (v := .tuple #[epV 0 0, .bool false]) (by simp [results, Tryz.results69, go_sem, g0, g1]) rfl ?_; exact ⟨by rw [HRF.out], But.below (O := fun k => w.heap.size ≤ k) (HE.out.trans ((But.of_below D6).trans ((But.setCell _ _ _ (by simp)).trans (But.setCell _ _ _ (by simp))))) (fun k e => e) (Nat.le_refl _)⟩
              · have hd : ¬ (4294967295 : Int) < n := by omega
                have he : (4294967295 : Int) < m := by omega
                go_wp2; have hZ := (Z6.set 0 (.int .u32 0)).set 1 (.int .u32 0); have g0 := RowAt.cell hZ (i := 0) (v := .int .u32 0) rfl; have g1 := RowAt.cell hZ (i := 1) (v := .int .u32 0) rfl; refine bodyPost_ret (v := .tuple #[epV 0 0, .bool false]) (by simp [results, Tryz.results69, go_sem, g0, g1]) rfl ?_; exact ⟨by rw [HRF.out], But.below (O := fun k => w.heap.size ≤ k) (HE.out.trans ((But.of_below D6).trans ((But.setCell _ _ _ (by simp)).trans (But.setCell _ _ _ (by simp))))) (fun k e => e) (Nat.le_refl _)⟩
          · have ha : ¬ (n : Int) < 1 := by omega
            have hb : ¬ (4294967295 : Int) < n := by omega
            have hc : ¬ (4294967295 : Int) < m := by omega
            have hwn : IntKind.u32.wrap (n : Int) = n := by rw [IntKind.wrap_u32]; omega
            have hwm : IntKind.u32.wrap (m : Int) = m := by rw [IntKind.wrap_u32]; omega
            have HRI2 := Lib.hid (fun (W : World) => rItem_c n m (by omega) (by omega) (fun h => by omega) W); have HHN := Lib.hid (show n ≠ 0 ∧ n < 4294967296 ∧ m < 4294967296 by omega); have HAL := Lib.hid (below_alloc Wd (.cells #[.int .u32 n, .int .u32 m] 25)); have HYN := Lib.hid (RowAt.new Wd #[.int .u32 n, .int .u32 m] 25); have HD9 := Lib.hid D9; have HX9 := Lib.hid X9; have HZ9 := Lib.hid Z9; clear hBd D9 X9 Z9 hnm hn1; go_wp2; refine wp_region_pt (fun _ => False) (.q 0 (.q 1 (.c 2 (.c 3 (.q 4 .done))))) (by kernel_rfl) (by kernel_rfl) (by kernel_rfl) (by decide) (fun _ _ d _ _ h => by cases d <;> exact h) (fun We hBe => ?_)
            try simp only [zq]
            have HDW := Lib.hid (below_up (below_up HD9.out HAL.out) hBe); have X9 := (HX9.out.below HAL.out).below hBe; have b0 := X9.cell (i := 0) rfl; have b1 := X9.cell (i := 1) rfl; have b2 := X9.cell (i := 2) rfl; have b3 := X9.cell (i := 3) rfl; have b4 := X9.cell (i := 4) rfl; have Y9 := HYN.out.below hBe; have y0 := Y9.cell (i := 0) rfl; have y1 := Y9.cell (i := 1) rfl; refine pt_q (v := ?_) rfl (by rfl) ?_ ?_; rotate_left
            · intro w' hBw'
              have qL0 := hBw'.cell b0 (fun e => e); have qL1 := hBw'.cell b1 (fun e => e); have qL2 := hBw'.cell b2 (fun e => e); have qL3 := hBw'.cell b3 (fun e => e); have qL4 := hBw'.cell b4 (fun e => e)
              first | (go_simp; done) | (go_simp; with_reducible rfl)
            try simp only [zq]
            refine zth rfl (by rfl) (fun w' hBw' => hBw'.cell y0 (fun e => e)) (fun w' hBw' => hBw'.cell y1 (fun e => e)) ?_
            refine zc fun K hK => ?_
            go_simp; refine (HRI2.out _).mono ?_; rintro en v12 ⟨hb12, r9, rfl, hi9⟩; obtain ⟨k9, n9, ba9, bn9, bc9, s9, la9, ln9, lc9, rfl⟩ := hi9.shape; refine hK.out _ _ (But.of_below hb12) ?_; clear hK K
            try simp only [zq]
            refine zc fun K hK => ?_
            go_simp; have hz12 := hb12.size; have hzd := HDW.out.size; have hz0 := HZS.out; refine (sameR_c (fun k => k < v12.heap.size) x (epI n m) _ _ v12 (((HX3.out.up HDW.out).up hb12).mono (fun k e => by omega)) (hi9.mono (fun k e => e.2)) HCX.out (cnt_ep n m)).mono ?_; rintro en v13 ⟨rfl, hb13⟩; refine hK.out _ _ (But.of_below hb13) ?_; clear hK K
            try simp only [zq]
            refine zt rfl (by rfl) ?_; have HDE := Lib.hid (below_up (below_up HDW.out hb12) hb13); have Z10 := Z3.below HDE.out; have Y10 := (Y9.below hb12).below hb13; clear b0 b1 b2 b3 b4 y0 y1; have z0 := Z10.cell (i := 0) rfl; have z1 := Z10.cell (i := 1) rfl; have f0 := Z10.fz 0; have f1 := Z10.fz 1; have y0 := Y10.cell (i := 0) rfl; have y1 := Y10.cell (i := 1) rfl; clear hb12 hb13 hBe hi9; refine pt_done ?_; cases hs : sameB x (epI n m)
            · have hno : okE x = false := by
                rw [Bool.eq_false_iff]; intro hk; have := (HQ.out hk).2.2.2; rw [← this, sameB_refl] at hs; cases hs
              have HRF := Lib.hid (HNO.out hno); clear hno hs; have D6 := HDE.out; have Z6 := Z10; go_wp2; have hZ := (Z6.set 0 (.int .u32 0)).set 1 (.int .u32 0); have g0 := RowAt.cell hZ (i := 0) (v := .int .u32 0) rfl; have g1 := RowAt.cell hZ (i := 1) (v := .int .u32 0) rfl; refine bodyPost_ret (v := .tuple #[epV 0 0, .bool false]) (by simp [results, Tryz.results69, go_sem, g0, g1]) rfl ?_; exact ⟨by rw [HRF.out], But.below (O := fun k => w.heap.size ≤ k) (HE.out.trans ((But.of_below D6).trans ((But.setCell _ _ _ (by simp)).trans (But.setCell _ _ _ (by simp))))) (fun k e => e) (Nat.le_refl _)⟩
            · have HRF := Lib.hid (HYES.out n m (okE_of HHN.out.2.1 HHN.out.2.2 HHN.out.1 hs))
              clear hs; have D6 := HDE.out; go_wp2; have hZ := (Z10.set 0 (.int .u32 n)).set 1 (.int .u32 m); have g0 := RowAt.cell hZ (i := 0) (v := .int .u32 n) rfl; have g1 := RowAt.cell hZ (i := 1) (v := .int .u32 m) rfl; refine bodyPost_ret (v := .tuple #[epV n m, .bool true]) (by simp [results, Tryz.results69, go_sem, g0, g1]) rfl ?_; exact ⟨by rw [HRF.out], But.below (O := fun k => w.heap.size ≤ k) (HE.out.trans ((But.of_below D6).trans ((But.setCell _ _ _ (by simp)).trans (But.setCell _ _ _ (by simp))))) (fun k e => e) (Nat.le_refl _)⟩
        · have h3f : shB y1 [1, 1] = false := by simpa using h3
          have hno : okE x = false := by
            rw [Bool.eq_false_iff]; intro hk; exact h3 (far_sh3 (HFAR.out hk) HLX.out)
          have HRF := Lib.hid (HNO.out hno); rw [h3f] at HS2; clear h3 h3f hno
          go_wp2_with fail
          refine HS2.out.mono ?_; rintro en v8 ⟨rfl, hb8⟩; have D8 := below_up D6 (below_up hq2 hb8); clear D6; have D6 := D8; have Z6 := Z3.below D6; have z0 := Z6.cell (i := 0) rfl; have z1 := Z6.cell (i := 1) rfl; have f0 := Z6.fz 0; have f1 := Z6.fz 1; clear b0 b1 b2 b3 b4 c0 c1 c2 c3 c4 hb8; go_wp2; have hZ := (Z6.set 0 (.int .u32 0)).set 1 (.int .u32 0); have g0 := RowAt.cell hZ (i := 0) (v := .int .u32 0) rfl; have g1 := RowAt.cell hZ (i := 1) (v := .int .u32 0) rfl; refine bodyPost_ret (v := .tuple #[epV 0 0, .bool false]) (by simp [results, Tryz.results69, go_sem, g0, g1]) rfl ?_; exact ⟨by rw [HRF.out], But.below (O := fun k => w.heap.size ≤ k) (HE.out.trans ((But.of_below D6).trans ((But.setCell _ _ _ (by simp)).trans (But.setCell _ _ _ (by simp))))) (fun k e => e) (Nat.le_refl _)⟩
      · have h2f : bareB x = false := by simpa using h2
        have hno : okE x = false := by
          rw [Bool.eq_false_iff]; intro hk; obtain ⟨n, m, hn0, _, _, rfl, _, _⟩ := HFAR.out hk; exact h2 (bare_ep hn0)
        have HRF := Lib.hid (HNO.out hno); rw [h1] at HSW
        have HBA := Lib.hid (fun (W : World) (h : ItR (fun k => k < W.heap.size) W x ⟨k1, n1, .slice ba1 bn1 bc1, s1, .slice la1 ln1 lc1⟩) => show Calls Tryz.prog 109 #[rwV ⟨k1, n1, .slice ba1 bn1 bc1, s1, .slice la1 ln1 lc1⟩] W (Ret (.bool false) W) by
          have := bareR_c (fun k => k < W.heap.size) x ⟨k1, n1, .slice ba1 bn1 bc1, s1, .slice la1 ln1 lc1⟩ W h HCX.out; rw [h2f] at this
          exact this)
        clear hno h1 h2 h2f
        go_wp2_with fail
        refine HSW.out.mono ?_; rintro en v5 ⟨rfl, hb5⟩; have D5 := below_up hq hb5; have X5 := X3.below D5; clear b0 b1 b2 b3 b4; have b0 := X5.cell (i := 0) rfl; have b1 := X5.cell (i := 1) rfl; have b2 := X5.cell (i := 2) rfl; have b3 := X5.cell (i := 3) rfl; have b4 := X5.cell (i := 4) rfl; clear hb5
        go_wp2_with fail
        refine (HBA.out v5 ((HX3.out.up D5).mono (fun k e => by have := D5.size; have := HZS.out; omega))).mono ?_; rintro en v6 ⟨rfl, hb6⟩; have D6 := below_up D5 hb6; have Z6 := Z3.below D6; have z0 := Z6.cell (i := 0) rfl; have z1 := Z6.cell (i := 1) rfl; have f0 := Z6.fz 0; have f1 := Z6.fz 1; clear b0 b1 b2 b3 b4 hb6; go_wp2; have hZ := (Z6.set 0 (.int .u32 0)).set 1 (.int .u32 0); have g0 := RowAt.cell hZ (i := 0) (v := .int .u32 0) rfl; have g1 := RowAt.cell hZ (i := 1) (v := .int .u32 0) rfl; refine bodyPost_ret (v := .tuple #[epV 0 0, .bool false]) (by simp [results, Tryz.results69, go_sem, g0, g1]) rfl ?_; exact ⟨by rw [HRF.out], But.below (O := fun k => w.heap.size ≤ k) (HE.out.trans ((But.of_below D6).trans ((But.setCell _ _ _ (by simp)).trans (But.setCell _ _ _ (by simp))))) (fun k e => e) (Nat.le_refl _)⟩
    · have h1f : shB x [1, 4] = false := by simpa using h1
      have hno : okE x = false := by
        rw [Bool.eq_false_iff]; intro hk; obtain ⟨n, m, hn0, _, _, rfl, _, _⟩ := HFAR.out hk; exact h1 (ep_shape hn0).1
      have HRF := Lib.hid (HNO.out hno); rw [h1f] at HSW; clear hno h1 h1f
      go_wp2_with fail
      refine HSW.out.mono ?_; rintro en v6 ⟨rfl, hb6⟩; have D6 := below_up hq hb6; have Z6 := Z3.below D6; have z0 := Z6.cell (i := 0) rfl; have z1 := Z6.cell (i := 1) rfl; have f0 := Z6.fz 0; have f1 := Z6.fz 1; clear b0 b1 b2 b3 b4 hb6; go_wp2; have hZ := (Z6.set 0 (.int .u32 0)).set 1 (.int .u32 0); have g0 := RowAt.cell hZ (i := 0) (v := .int .u32 0) rfl; have g1 := RowAt.cell hZ (i := 1) (v := .int .u32 0) rfl; refine bodyPost_ret (v := .tuple #[epV 0 0, .bool false]) (by simp [results, Tryz.results69, go_sem, g0, g1]) rfl ?_; exact ⟨by rw [HRF.out], But.below (O := fun k => w.heap.size ≤ k) (HE.out.trans ((But.of_below D6).trans ((But.setCell _ _ _ (by simp)).trans (But.setCell _ _ _ (by simp))))) (fun k e => e) (Nat.le_refl _)⟩
end Go.Proofs.YtpkonagjnfphkaaGreatDoor
