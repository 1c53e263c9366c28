/-
  NameNames, NameNamesL, NameNamesRow: several texts in one (bundle.py).
-/
import Derived.Test.YtpfgepgjpnekdaaDoorNmP38
import Derived.Test.YtpfgepgjpnekdaaDoorNmP33
import Derived.Test.YtpfgepgjpnekdaaDoorNmP29
import Derived.Test.YtpfgepgjpnekdaaDoorNmP40
import Derived.Test.YtpfgepgjpnekdaaDoorRows
import Derived.Test.YtpfgepgjpnekdaaDoorNmP02
import Derived.SizedLaws
import Derived.Test.YtpfgepgjpnekdaaDoorTie
import Derived.Test.YtpfgepgjpnekdaaDoorCards
import Derived.Lib.LaidIn
import Derived.Lib.LaidU8T
import Derived.Deep.DeepHandedRow
import Derived.Deep.DeepWitnessRowRef
import Derived.PinnedBridge
import Derived.ProofKit
import Derived.SevenTiedAt
namespace Go.Proofs.YtpfgepgjpnekdaaDoor
open Go.RowKit Trc Cb
set_option linter.unusedSimpArgs false
set_option linter.unusedVariables false
abbrev zV5 : Value := .agg #[.int .i64 0, .int .u64 0, .slice none 0 0, .string ⟨#[]⟩, .slice none 0 0]
theorem chkN_two {n t : Nat} (h : Dig.chkN n t ≠ 0) : Dig.chkN n t = 2 := by
  unfold Dig.chkN at *
  split at h
  · rename_i h2; rw [if_pos h2]
  · exact absurd rfl h
theorem pname_mk (n m t s : Nat) (hn : n < 4294967296) (hm : m < 4294967296) (ht : t < 18446744073709551616) (hs : s < 4294967296) (hc : Dig.chkN n t = 0) : Dig.nameP (Dig.nameT n m t s) = (⟨n, m, t, s⟩, 0) := by
  have hx : n ≠ 0 ∧ t ≤ 4611686018427387903 := by
    unfold Dig.chkN at hc
    split at hc
    · cases hc
    · rename_i h; omega
  have hl : ¬ 100 < (Dig.nameT n m t s).length := by have := Dig.nameT_len n m t s hn hm ht hs; omega
  unfold Dig.nameP
  rw [if_neg hl, Dig.nameQ_mk n m t s hx.1 hn hm hx.2 hs]
set_option maxHeartbeats 4000000 in
set_option maxRecDepth 100000 in
theorem nameNames_law (n m t s : Nat) (hn : n < 4294967296) (hm : m < 4294967296) (ht : t < 18446744073709551616) (hs : s < 4294967296) (w : World) (hT : NmT w) : Calls Tryd.prog 5 #[nmW n m t s] w (Ret (.bool true) w) := by
  have HT := Lib.hid hT
  clear hT
  obtain ⟨T, hTo⟩ : ∃ T, T = Dig.nameT n m t s := ⟨_, rfl⟩
  have hd : Ordering.eq = .eq := rfl
  by_cases hc : Dig.chkN n t = 0
  · have HTX := Lib.hid (fun (W : World) (h : NmT W) => show Calls Tryd.prog 16 #[nmW n m t s] W (Ret (.tuple #[strV T, .int .i64 0]) W) by
      have := nameText_c n m t s hn hm ht hs W h
      rw [if_pos hc, hc, ← hTo] at this
      exact this)
    have HIT := Lib.hid (fun (W : World) => show Calls Tryd.prog 17 #[nmW n m t s] W (MkE (nmI n m t s) 0 W) by
      have := nmNameItem_c n m t s hn hm ht hs W
      rw [if_pos hc, hc] at this
      exact this)
    have HCK := Lib.hid (fun (W : World) => show Calls Tryd.prog 20 #[nmW n m t s] W (Ret (.int .i64 0) W) by
      have := checkName_cN n m t s W
      rw [hc] at this
      exact this)
    have HRI := Lib.hid (fun (W : World) => show Calls Tryd.prog 21 #[nmW n m t s] W (Ret (.bool true) W) by
      have := rRightName_c n m t s W
      rw [decide_eq_true hc] at this
      exact this)
    have HPA := Lib.hid (fun (W : World) (h : NmT W) => show Calls Tryd.prog 11 #[strV T] W (fun en w' => Below W.heap.size W w' ∧ en = .returned (.tuple #[nmW n m t s, .int .i64 0])) by
      have hp := pname_mk n m t s hn hm ht hs hc
      rw [← hTo] at hp
      have hl : T.length ≤ 281474976710656 := by
        have := Dig.nameT_len n m t s hn hm ht hs
        rw [hTo]; omega
      have := parseName_c T hl W h
      unfold PnE at this
      rw [hp] at this
      exact this)
    have HOF := Lib.hid (fun (W : World) (r : Rw) (hx : ItR (fun k => k < W.heap.size) W (nmI n m t s) r) => show Calls Tryd.prog 22 #[rwV r] W (Ret (.tuple #[nmW n m t s, .int .i64 0]) W) by
      have := nof_c (nmI n m t s) r W hx (cnt_nmI n m t s)
      rw [nof_nmI n m t s hn hm hs hc] at this
      exact this)
    have h0 : n = 0 → m = 0 := fun h => by
      unfold Dig.chkN at hc
      rw [if_pos (.inl h)] at hc
      cases hc
    have HRT := Lib.hid (fun (W : World) => show Calls Tryd.prog 23 #[nmW n m t s] W (Ret (strV T) W) by
      rw [hTo]; exact rNameText_c n m t s hn hm ht hs h0 W)
    have HRM := Lib.hid (fun (W : World) => rNameItem_c n m t s hn hm ht hs h0 W)
    clear hc hTo h0 hd
    go_enter Tryd.func5, Tryd.ntmps5
    go_wp2_with fail
    have X0 := RowAt.new w #[.int .u32 n, .int .u32 m, .int .u64 t, .int .u32 s] 31
    have D0 := below_alloc w (.cells #[.int .u32 n, .int .u32 m, .int .u64 t, .int .u32 s] 31)
    refine (HTX.out _ (HT.out.up D0)).mono ?_
    rintro en w1 ⟨rfl, hb1⟩
    have D1 := below_up D0 hb1
    replace X0 := X0.below hb1
    have x0 := X0.cell (i := 0) rfl
    have x1 := X0.cell (i := 1) rfl
    have x2 := X0.cell (i := 2) rfl
    have x3 := X0.cell (i := 3) rfl
    clear hb1 D0
    go_wp2_with fail
    refine (HIT.out _).mono ?_
    rintro en w2 ⟨hb2, r8, rfl, hi8⟩
    obtain ⟨k8, n8, ba8, bn8, bc8, s8, la8, ln8, lc8, rfl⟩ := hi8.shape
    have hs2 := hb2.size
    have D2 := (below_up D1 hb2).trans ((below_alloc w2 (.cells (rwC ⟨k8, n8, .slice ba8 bn8 bc8, s8, .slice la8 ln8 lc8⟩).toArray 48)).mono (below_up D1 hb2).size)
    have X2 := RowAt.new w2 (rwC ⟨k8, n8, .slice ba8 bn8 bc8, s8, .slice la8 ln8 lc8⟩).toArray 48
    replace X0 := (X0.below hb2).below (below_alloc w2 (.cells (rwC ⟨k8, n8, .slice ba8 bn8 bc8, s8, .slice la8 ln8 lc8⟩).toArray 48))
    replace hi8 := (hi8.up (below_alloc w2 (.cells (rwC ⟨k8, n8, .slice ba8 bn8 bc8, s8, .slice la8 ln8 lc8⟩).toArray 48))).mono (S' := fun k => k < w2.heap.size) (fun k e => e.2)
    clear x0 x1 x2 x3
    have x0 := X0.cell (i := 0) rfl
    have x1 := X0.cell (i := 1) rfl
    have x2 := X0.cell (i := 2) rfl
    have x3 := X0.cell (i := 3) rfl
    clear hb2 D1
    have HI8 := Lib.hid hi8
    clear hi8
    go_wp2_with fail
    refine (HCK.out _).mono ?_
    rintro en w3 ⟨rfl, hb3⟩
    have D3 := below_up D2 hb3
    replace X0 := X0.below hb3
    replace X2 := X2.below hb3
    have hi8 := HI8.out.up hb3
    clear x0 x1 x2 x3 HI8
    have x0 := X0.cell (i := 0) rfl
    have x1 := X0.cell (i := 1) rfl
    have x2 := X0.cell (i := 2) rfl
    have x3 := X0.cell (i := 3) rfl
    have HI8 := Lib.hid hi8
    have hs3 : w2.heap.size ≤ w3.heap.size := by have := hb3.size; simp at this; omega
    clear hb3 D2 hi8
    go_wp2_with fail
    refine (HRI.out _).mono ?_
    rintro en w4 ⟨rfl, hb4⟩
    have D4 := below_up D3 hb4
    replace X0 := X0.below hb4
    replace X2 := X2.below hb4
    have hi8 := HI8.out.up hb4
    clear x0 x1 x2 x3 HI8
    have HI8 := Lib.hid hi8
    have hs4 := hb4.size
    clear hb4 D3 hi8
    go_wp2_with fail
    refine (HPA.out _ (HT.out.up D4)).mono ?_
    rintro en w5 ⟨hb5, rfl⟩
    have D5 := (below_up D4 hb5).trans ((below_alloc w5 (.cells #[.int .u32 n, .int .u32 m, .int .u64 t, .int .u32 s] 31)).mono (below_up D4 hb5).size)
    have X5 := RowAt.new w5 #[.int .u32 n, .int .u32 m, .int .u64 t, .int .u32 s] 31
    have hs5 := hb5.size
    replace X0 := (X0.below hb5).below (below_alloc w5 (.cells #[.int .u32 n, .int .u32 m, .int .u64 t, .int .u32 s] 31))
    replace X2 := (X2.below hb5).below (below_alloc w5 (.cells #[.int .u32 n, .int .u32 m, .int .u64 t, .int .u32 s] 31))
    have hi8 := (HI8.out.up hb5).up (below_alloc w5 (.cells #[.int .u32 n, .int .u32 m, .int .u64 t, .int .u32 s] 31))
    have y0 := X2.cell (i := 0) rfl
    have y1 := X2.cell (i := 1) rfl
    have y2 := X2.cell (i := 2) rfl
    have y3 := X2.cell (i := 3) rfl
    have y4 := X2.cell (i := 4) rfl
    have HI8 := Lib.hid hi8
    clear hb5 D4 hi8
    go_wp2_with fail
    refine (HOF.out _ _ (HI8.out.mono (S' := fun k => k < (w5.alloc (.cells #[.int .u32 n, .int .u32 m, .int .u64 t, .int .u32 s] 31)).heap.size) (fun k e => by simp; omega))).mono ?_
    rintro en w6 ⟨rfl, hb6⟩
    have D6 := (below_up D5 hb6).trans ((below_alloc w6 (.cells #[.int .u32 n, .int .u32 m, .int .u64 t, .int .u32 s] 31)).mono (below_up D5 hb6).size)
    have X6 := RowAt.new w6 #[.int .u32 n, .int .u32 m, .int .u64 t, .int .u32 s] 31
    replace X0 := (X0.below hb6).below (below_alloc w6 (.cells #[.int .u32 n, .int .u32 m, .int .u64 t, .int .u32 s] 31))
    replace X2 := (X2.below hb6).below (below_alloc w6 (.cells #[.int .u32 n, .int .u32 m, .int .u64 t, .int .u32 s] 31))
    replace X5 := (X5.below hb6).below (below_alloc w6 (.cells #[.int .u32 n, .int .u32 m, .int .u64 t, .int .u32 s] 31))
    have hi8 := (HI8.out.up hb6).up (below_alloc w6 (.cells #[.int .u32 n, .int .u32 m, .int .u64 t, .int .u32 s] 31))
    have HI8 := Lib.hid hi8
    have hs6 : w2.heap.size ≤ w6.heap.size := by have := hb6.size; simp at this; omega
    clear hb6 D5 hi8 y0 y1 y2 y3 y4
    go_wp2
    refine wp_region_pt (fun _ => False) (.q 0 (.q 1 (.c 2 (.q 3 (.q 4 (.q 5 (.q 6 (.c 7 (.c 8 (.q 9 (.q 10 (.q 11 (.q 13 (.q 16 (.q 19 (.q 22 (.c 12 (.c 14 (.q 15 (.c 17 (.q 18 (.c 20 (.q 21 (.c 23 (.q 24 (.q 25 (.q 26 (.q 27 (.q 28 (.q 29 (.q 30 (.q 31 (.q 32 (.q 33 (.q 34 (.q 35 (.q 36 (.q 37 (.c 38 (.q 39 (.q 40 .done))))))))))))))))))))))))))))))))))))))))) (by kernel_rfl) (by kernel_rfl) (by kernel_rfl) (by decide) (fun _ _ d _ _ h => by cases d <;> exact h) (fun Wd hBd => ?_)
    try simp only [Act.put, List.getElem_toArray, List.getElem_cons_zero, List.getElem_cons_succ, List.setIfInBounds_toArray, List.set_cons_zero, List.set_cons_succ]
    have hsA : w2.heap.size ≤ Wd.heap.size := by have := hBd.size; simp at this; omega
    have E0 := below_up D6 hBd
    replace X0 := X0.below hBd
    replace X2 := X2.below hBd
    replace X5 := X5.below hBd
    replace X6 := X6.below hBd
    have hi8 := HI8.out.up hBd
    have x0 := X0.cell (i := 0) rfl
    have x1 := X0.cell (i := 1) rfl
    have x2 := X0.cell (i := 2) rfl
    have x3 := X0.cell (i := 3) rfl
    refine pt_q (v := ?_) rfl (by rfl) ?_ ?_
    rotate_left
    · intro w' hBw'
      first | (go_simp; done) | (go_simp; with_reducible rfl)
    try simp only [Act.put, List.getElem_toArray, List.getElem_cons_zero, List.getElem_cons_succ, List.setIfInBounds_toArray, List.set_cons_zero, List.set_cons_succ]
    refine pt_q (v := ?_) rfl (by rfl) ?_ ?_
    rotate_left
    · intro w' hBw'
      have qL0 := hBw'.cell x0 (fun e => e)
      have qL1 := hBw'.cell x1 (fun e => e)
      have qL2 := hBw'.cell x2 (fun e => e)
      have qL3 := hBw'.cell x3 (fun e => e)
      first | (go_simp; done) | (go_simp; with_reducible rfl)
    try simp only [Act.put, List.getElem_toArray, List.getElem_cons_zero, List.getElem_cons_succ, List.setIfInBounds_toArray, List.set_cons_zero, List.set_cons_succ]
    refine pt_c ?_
    refine pt_step rfl (by rfl) (fun K hK => ?_)
    go_simp
    refine (HRT.out _).mono ?_
    rintro en v1 ⟨rfl, hb7⟩
    refine hK.out _ _ (But.of_below hb7) ?_
    clear hK K
    try simp only [Act.put, List.getElem_toArray, List.getElem_cons_zero, List.getElem_cons_succ, List.setIfInBounds_toArray, List.set_cons_zero, List.set_cons_succ]
    have hsC := hb7.size
    have E1 := below_up E0 hb7
    replace X0 := X0.below hb7
    replace X2 := X2.below hb7
    replace X5 := X5.below hb7
    replace X6 := X6.below hb7
    replace hi8 := hi8.up hb7
    clear x0 x1 x2 x3
    have x0 := X0.cell (i := 0) rfl
    have x1 := X0.cell (i := 1) rfl
    have x2 := X0.cell (i := 2) rfl
    have x3 := X0.cell (i := 3) rfl
    have y0 := X2.cell (i := 0) rfl
    have y1 := X2.cell (i := 1) rfl
    have y2 := X2.cell (i := 2) rfl
    have y3 := X2.cell (i := 3) rfl
    have y4 := X2.cell (i := 4) rfl
    refine pt_q (v := ?_) rfl (by rfl) ?_ ?_
    rotate_left
    · intro w' hBw'
      first | (go_simp; done) | (go_simp; with_reducible rfl)
    try simp only [Act.put, List.getElem_toArray, List.getElem_cons_zero, List.getElem_cons_succ, List.setIfInBounds_toArray, List.set_cons_zero, List.set_cons_succ]
    refine pt_q (v := ?_) rfl (by rfl) ?_ ?_
    rotate_left
    · intro w' hBw'
      first | (go_simp; done) | (go_simp; with_reducible rfl)
    try simp only [Act.put, List.getElem_toArray, List.getElem_cons_zero, List.getElem_cons_succ, List.setIfInBounds_toArray, List.set_cons_zero, List.set_cons_succ]
    refine pt_q (v := ?_) rfl (by rfl) ?_ ?_
    rotate_left
    · intro w' hBw'
      have qL0 := hBw'.cell y0 (fun e => e)
      have qL1 := hBw'.cell y1 (fun e => e)
      have qL2 := hBw'.cell y2 (fun e => e)
      have qL3 := hBw'.cell y3 (fun e => e)
      have qL4 := hBw'.cell y4 (fun e => e)
      first | (go_simp; done) | (go_simp; with_reducible rfl)
    try simp only [Act.put, List.getElem_toArray, List.getElem_cons_zero, List.getElem_cons_succ, List.setIfInBounds_toArray, List.set_cons_zero, List.set_cons_succ]
    refine pt_q (v := ?_) rfl (by rfl) ?_ ?_
    rotate_left
    · intro w' hBw'
      have qL0 := hBw'.cell x0 (fun e => e)
      have qL1 := hBw'.cell x1 (fun e => e)
      have qL2 := hBw'.cell x2 (fun e => e)
      have qL3 := hBw'.cell x3 (fun e => e)
      first | (go_simp; done) | (go_simp; with_reducible rfl)
    try simp only [Act.put, List.getElem_toArray, List.getElem_cons_zero, List.getElem_cons_succ, List.setIfInBounds_toArray, List.set_cons_zero, List.set_cons_succ]
    refine pt_c ?_
    refine pt_step rfl (by rfl) (fun K hK => ?_)
    go_simp
    refine (HRM.out _).mono ?_
    rintro en v2 ⟨hb8, r9, rfl, hi9⟩
    obtain ⟨k9, n9, ba9, bn9, bc9, s9, la9, ln9, lc9, rfl⟩ := hi9.shape
    refine hK.out _ _ (But.of_below hb8) ?_
    clear hK K
    try simp only [Act.put, List.getElem_toArray, List.getElem_cons_zero, List.getElem_cons_succ, List.setIfInBounds_toArray, List.set_cons_zero, List.set_cons_succ]
    have E2 := below_up E1 hb8
    have hsb := hb8.size
    replace X0 := X0.below hb8
    replace X5 := X5.below hb8
    replace X6 := X6.below hb8
    replace hi8 := hi8.up hb8
    clear x0 x1 x2 x3
    have x0 := X0.cell (i := 0) rfl
    have x1 := X0.cell (i := 1) rfl
    have x2 := X0.cell (i := 2) rfl
    have x3 := X0.cell (i := 3) rfl
    have z0 := X5.cell (i := 0) rfl
    have z1 := X5.cell (i := 1) rfl
    have z2 := X5.cell (i := 2) rfl
    have z3 := X5.cell (i := 3) rfl
    have u0 := X6.cell (i := 0) rfl
    have u1 := X6.cell (i := 1) rfl
    have u2 := X6.cell (i := 2) rfl
    have u3 := X6.cell (i := 3) rfl
    refine pt_c ?_
    refine pt_step rfl (by rfl) (fun K hK => ?_)
    go_simp
    refine (sameR_c (fun k => k < v2.heap.size) (nmI n m t s) (nmI n m t s) _ _ _ (hi8.mono (S' := fun k => k < v2.heap.size) (fun k e => by omega)) (hi9.mono (S' := fun k => k < v2.heap.size) (fun k e => e.2)) (cnt_nmI n m t s) (cnt_nmI n m t s)).mono ?_
    rw [sameB_refl]
    rintro en v3 ⟨rfl, hb9⟩
    refine hK.out _ _ (But.of_below hb9) ?_
    clear hK K
    try simp only [Act.put, List.getElem_toArray, List.getElem_cons_zero, List.getElem_cons_succ, List.setIfInBounds_toArray, List.set_cons_zero, List.set_cons_succ]
    have E3 := below_up E2 hb9
    replace X0 := X0.below hb9
    replace X5 := X5.below hb9
    replace X6 := X6.below hb9
    clear x0 x1 x2 x3 z0 z1 z2 z3 u0 u1 u2 u3
    have x0 := X0.cell (i := 0) rfl
    have x1 := X0.cell (i := 1) rfl
    have x2 := X0.cell (i := 2) rfl
    have x3 := X0.cell (i := 3) rfl
    have z0 := X5.cell (i := 0) rfl
    have z1 := X5.cell (i := 1) rfl
    have z2 := X5.cell (i := 2) rfl
    have z3 := X5.cell (i := 3) rfl
    have u0 := X6.cell (i := 0) rfl
    have u1 := X6.cell (i := 1) rfl
    have u2 := X6.cell (i := 2) rfl
    have u3 := X6.cell (i := 3) rfl
    refine pt_q (v := ?_) rfl (by rfl) ?_ ?_
    rotate_left
    · intro w' hBw'
      first | (go_simp; done) | (go_simp; with_reducible rfl)
    try simp only [Act.put, List.getElem_toArray, List.getElem_cons_zero, List.getElem_cons_succ, List.setIfInBounds_toArray, List.set_cons_zero, List.set_cons_succ]
    refine pt_q (v := ?_) rfl (by rfl) ?_ ?_
    rotate_left
    · intro w' hBw'
      first | (go_simp; done) | (go_simp; with_reducible rfl)
    try simp only [Act.put, List.getElem_toArray, List.getElem_cons_zero, List.getElem_cons_succ, List.setIfInBounds_toArray, List.set_cons_zero, List.set_cons_succ]
    refine pt_q (v := ?_) rfl (by rfl) ?_ ?_
    rotate_left
    · intro w' hBw'
      first | (go_simp; done) | (go_simp; with_reducible rfl)
    try simp only [Act.put, List.getElem_toArray, List.getElem_cons_zero, List.getElem_cons_succ, List.setIfInBounds_toArray, List.set_cons_zero, List.set_cons_succ]
    refine pt_q (v := ?_) rfl (by rfl) ?_ ?_
    rotate_left
    · intro w' hBw'
      first | (go_simp; done) | (go_simp; with_reducible rfl)
    try simp only [Act.put, List.getElem_toArray, List.getElem_cons_zero, List.getElem_cons_succ, List.setIfInBounds_toArray, List.set_cons_zero, List.set_cons_succ]
    refine pt_q (v := ?_) rfl (by rfl) ?_ ?_
    rotate_left
    · intro w' hBw'
      first | (go_simp; done) | (go_simp; with_reducible rfl)
    try simp only [Act.put, List.getElem_toArray, List.getElem_cons_zero, List.getElem_cons_succ, List.setIfInBounds_toArray, List.set_cons_zero, List.set_cons_succ]
    refine pt_q (v := ?_) rfl (by rfl) ?_ ?_
    rotate_left
    · intro w' hBw'
      first | (go_simp; done) | (go_simp; with_reducible rfl)
    try simp only [Act.put, List.getElem_toArray, List.getElem_cons_zero, List.getElem_cons_succ, List.setIfInBounds_toArray, List.set_cons_zero, List.set_cons_succ]
    refine pt_q (v := ?_) rfl (by rfl) ?_ ?_
    rotate_left
    · intro w' hBw'
      first | (go_simp; done) | (go_simp; with_reducible rfl)
    try simp only [Act.put, List.getElem_toArray, List.getElem_cons_zero, List.getElem_cons_succ, List.setIfInBounds_toArray, List.set_cons_zero, List.set_cons_succ]
    refine pt_c ?_
    refine pt_step rfl (by rfl) (fun K hK => ?_)
    go_simp
    with_reducible refine (numL_c _ _).mono ?_
    rintro en wn ⟨rfl, rfl⟩
    refine hK.out _ _ (But.refl _ _) ?_
    clear hK K
    try simp only [Act.put, List.getElem_toArray, List.getElem_cons_zero, List.getElem_cons_succ, List.setIfInBounds_toArray, List.set_cons_zero, List.set_cons_succ]
    refine pt_c ?_
    refine pt_step rfl (by rfl) (fun K hK => ?_)
    go_simp
    with_reducible refine (numL_c _ _).mono ?_
    rintro en wn ⟨rfl, rfl⟩
    refine hK.out _ _ (But.refl _ _) ?_
    clear hK K
    try simp only [Act.put, List.getElem_toArray, List.getElem_cons_zero, List.getElem_cons_succ, List.setIfInBounds_toArray, List.set_cons_zero, List.set_cons_succ]
    refine pt_q (v := ?_) rfl (by rfl) ?_ ?_
    rotate_left
    · intro w' hBw'
      first | (go_simp; done) | (go_simp; with_reducible rfl)
    try simp only [Act.put, List.getElem_toArray, List.getElem_cons_zero, List.getElem_cons_succ, List.setIfInBounds_toArray, List.set_cons_zero, List.set_cons_succ]
    refine pt_c ?_
    refine pt_step rfl (by rfl) (fun K hK => ?_)
    go_simp
    with_reducible refine (numL_c _ _).mono ?_
    rintro en wn ⟨rfl, rfl⟩
    refine hK.out _ _ (But.refl _ _) ?_
    clear hK K
    try simp only [Act.put, List.getElem_toArray, List.getElem_cons_zero, List.getElem_cons_succ, List.setIfInBounds_toArray, List.set_cons_zero, List.set_cons_succ]
    refine pt_q (v := ?_) rfl (by rfl) ?_ ?_
    rotate_left
    · intro w' hBw'
      first | (go_simp; done) | (go_simp; with_reducible rfl)
    try simp only [Act.put, List.getElem_toArray, List.getElem_cons_zero, List.getElem_cons_succ, List.setIfInBounds_toArray, List.set_cons_zero, List.set_cons_succ]
    refine pt_c ?_
    refine pt_step rfl (by rfl) (fun K hK => ?_)
    go_simp
    with_reducible refine (numL_c _ _).mono ?_
    rintro en wn ⟨rfl, rfl⟩
    refine hK.out _ _ (But.refl _ _) ?_
    clear hK K
    try simp only [Act.put, List.getElem_toArray, List.getElem_cons_zero, List.getElem_cons_succ, List.setIfInBounds_toArray, List.set_cons_zero, List.set_cons_succ]
    refine pt_q (v := ?_) rfl (by rfl) ?_ ?_
    rotate_left
    · intro w' hBw'
      first | (go_simp; done) | (go_simp; with_reducible rfl)
    try simp only [Act.put, List.getElem_toArray, List.getElem_cons_zero, List.getElem_cons_succ, List.setIfInBounds_toArray, List.set_cons_zero, List.set_cons_succ]
    refine pt_c ?_
    refine pt_step rfl (by rfl) (fun K hK => ?_)
    go_simp
    with_reducible refine (numL_c _ _).mono ?_
    rintro en wn ⟨rfl, rfl⟩
    refine hK.out _ _ (But.refl _ _) ?_
    clear hK K
    try simp only [Act.put, List.getElem_toArray, List.getElem_cons_zero, List.getElem_cons_succ, List.setIfInBounds_toArray, List.set_cons_zero, List.set_cons_succ]
    refine pt_q (v := ?_) rfl (by rfl) ?_ ?_
    rotate_left
    · intro w' hBw'
      first | (go_simp; done) | (go_simp; with_reducible rfl)
    try simp only [Act.put, List.getElem_toArray, List.getElem_cons_zero, List.getElem_cons_succ, List.setIfInBounds_toArray, List.set_cons_zero, List.set_cons_succ]
    refine pt_q (v := ?_) rfl (by rfl) ?_ ?_
    rotate_left
    · intro w' hBw'
      first | (go_simp; done) | (go_simp; with_reducible rfl)
    try simp only [Act.put, List.getElem_toArray, List.getElem_cons_zero, List.getElem_cons_succ, List.setIfInBounds_toArray, List.set_cons_zero, List.set_cons_succ]
    refine pt_q (v := ?_) rfl (by rfl) ?_ ?_
    rotate_left
    · intro w' hBw'
      first | (go_simp; done) | (go_simp; with_reducible rfl)
    try simp only [Act.put, List.getElem_toArray, List.getElem_cons_zero, List.getElem_cons_succ, List.setIfInBounds_toArray, List.set_cons_zero, List.set_cons_succ]
    refine pt_q (v := ?_) rfl (by rfl) ?_ ?_
    rotate_left
    · intro w' hBw'
      first | (go_simp; done) | (go_simp; with_reducible rfl)
    try simp only [Act.put, List.getElem_toArray, List.getElem_cons_zero, List.getElem_cons_succ, List.setIfInBounds_toArray, List.set_cons_zero, List.set_cons_succ]
    refine pt_q (v := ?_) rfl (by rfl) ?_ ?_
    rotate_left
    · intro w' hBw'
      have qL0 := hBw'.cell z0 (fun e => e)
      have qL1 := hBw'.cell z1 (fun e => e)
      have qL2 := hBw'.cell z2 (fun e => e)
      have qL3 := hBw'.cell z3 (fun e => e)
      first | (go_simp; done) | (go_simp; with_reducible rfl)
    try simp only [Act.put, List.getElem_toArray, List.getElem_cons_zero, List.getElem_cons_succ, List.setIfInBounds_toArray, List.set_cons_zero, List.set_cons_succ]
    refine pt_q (v := ?_) rfl (by rfl) ?_ ?_
    rotate_left
    · intro w' hBw'
      have qL0 := hBw'.cell x0 (fun e => e)
      have qL1 := hBw'.cell x1 (fun e => e)
      have qL2 := hBw'.cell x2 (fun e => e)
      have qL3 := hBw'.cell x3 (fun e => e)
      first | (go_simp; done) | (go_simp; with_reducible rfl)
    try simp only [Act.put, List.getElem_toArray, List.getElem_cons_zero, List.getElem_cons_succ, List.setIfInBounds_toArray, List.set_cons_zero, List.set_cons_succ]
    refine pt_q (v := ?_) rfl (by rfl) ?_ ?_
    rotate_left
    · intro w' hBw'
      first | (go_simp; done) | (go_simp; with_reducible rfl)
    try simp only [Act.put, List.getElem_toArray, List.getElem_cons_zero, List.getElem_cons_succ, List.setIfInBounds_toArray, List.set_cons_zero, List.set_cons_succ]
    refine pt_q (v := ?_) rfl (by rfl) ?_ ?_
    rotate_left
    · intro w' hBw'
      first | (go_simp; done) | (go_simp; with_reducible rfl)
    try simp only [Act.put, List.getElem_toArray, List.getElem_cons_zero, List.getElem_cons_succ, List.setIfInBounds_toArray, List.set_cons_zero, List.set_cons_succ]
    refine pt_q (v := ?_) rfl (by rfl) ?_ ?_
    rotate_left
    · intro w' hBw'
      first | (go_simp; done) | (go_simp; with_reducible rfl)
    try simp only [Act.put, List.getElem_toArray, List.getElem_cons_zero, List.getElem_cons_succ, List.setIfInBounds_toArray, List.set_cons_zero, List.set_cons_succ]
    refine pt_q (v := ?_) rfl (by rfl) ?_ ?_
    rotate_left
    · intro w' hBw'
      have qL0 := hBw'.cell u0 (fun e => e)
      have qL1 := hBw'.cell u1 (fun e => e)
      have qL2 := hBw'.cell u2 (fun e => e)
      have qL3 := hBw'.cell u3 (fun e => e)
      first | (go_simp; done) | (go_simp; with_reducible rfl)
    try simp only [Act.put, List.getElem_toArray, List.getElem_cons_zero, List.getElem_cons_succ, List.setIfInBounds_toArray, List.set_cons_zero, List.set_cons_succ]
    refine pt_q (v := ?_) rfl (by rfl) ?_ ?_
    rotate_left
    · intro w' hBw'
      have qL0 := hBw'.cell x0 (fun e => e)
      have qL1 := hBw'.cell x1 (fun e => e)
      have qL2 := hBw'.cell x2 (fun e => e)
      have qL3 := hBw'.cell x3 (fun e => e)
      first | (go_simp; done) | (go_simp; with_reducible rfl)
    try simp only [Act.put, List.getElem_toArray, List.getElem_cons_zero, List.getElem_cons_succ, List.setIfInBounds_toArray, List.set_cons_zero, List.set_cons_succ]
    refine pt_q (v := ?_) rfl (by rfl) ?_ ?_
    rotate_left
    · intro w' hBw'
      first | (go_simp; done) | (go_simp; with_reducible rfl)
    try simp only [Act.put, List.getElem_toArray, List.getElem_cons_zero, List.getElem_cons_succ, List.setIfInBounds_toArray, List.set_cons_zero, List.set_cons_succ]
    refine pt_q (v := ?_) rfl (by rfl) ?_ ?_
    rotate_left
    · intro w' hBw'
      first | (go_simp; done) | (go_simp; with_reducible rfl)
    try simp only [Act.put, List.getElem_toArray, List.getElem_cons_zero, List.getElem_cons_succ, List.setIfInBounds_toArray, List.set_cons_zero, List.set_cons_succ]
    refine pt_q (v := ?_) rfl (by rfl) ?_ ?_
    rotate_left
    · intro w' hBw'
      first | (go_simp; done) | (go_simp; with_reducible rfl)
    try simp only [Act.put, List.getElem_toArray, List.getElem_cons_zero, List.getElem_cons_succ, List.setIfInBounds_toArray, List.set_cons_zero, List.set_cons_succ]
    refine pt_c ?_
    refine pt_step rfl (by rfl) (fun K hK => ?_)
    go_simp
    refine (nmWorks_c _ (HT.out.up E3)).mono ?_
    rintro en v4 ⟨rfl, hb10⟩
    refine hK.out _ _ (But.of_below hb10) ?_
    clear hK K
    try simp only [Act.put, List.getElem_toArray, List.getElem_cons_zero, List.getElem_cons_succ, List.setIfInBounds_toArray, List.set_cons_zero, List.set_cons_succ]
    refine pt_q (v := ?_) rfl (by rfl) ?_ ?_
    rotate_left
    · intro w' hBw'
      first | (go_simp; done) | (go_simp; with_reducible rfl)
    try simp only [Act.put, List.getElem_toArray, List.getElem_cons_zero, List.getElem_cons_succ, List.setIfInBounds_toArray, List.set_cons_zero, List.set_cons_succ]
    refine pt_q (v := ?_) rfl (by rfl) ?_ ?_
    rotate_left
    · intro w' hBw'
      first | (go_simp; done) | (go_simp; with_reducible rfl)
    try simp only [Act.put, List.getElem_toArray, List.getElem_cons_zero, List.getElem_cons_succ, List.setIfInBounds_toArray, List.set_cons_zero, List.set_cons_succ]
    refine pt_done ?_
    go_wp2
    go_ret
    exact ⟨rfl, below_up E3 hb10⟩
  · have h2 := chkN_two hc
    have HTX := Lib.hid (fun (W : World) (h : NmT W) => show Calls Tryd.prog 16 #[nmW n m t s] W (Ret (.tuple #[.string ⟨#[]⟩, .int .i64 2]) W) by
      have := nameText_c n m t s hn hm ht hs W h
      rw [if_neg hc, h2] at this
      exact this)
    have HIT := Lib.hid (fun (W : World) => show Calls Tryd.prog 17 #[nmW n m t s] W (MkE zI 2 W) by
      have := nmNameItem_c n m t s hn hm ht hs W
      rw [if_neg hc, h2] at this
      exact this)
    have HCK := Lib.hid (fun (W : World) => show Calls Tryd.prog 20 #[nmW n m t s] W (Ret (.int .i64 2) W) by
      have := checkName_cN n m t s W
      rw [h2] at this
      exact this)
    have HRI := Lib.hid (fun (W : World) => show Calls Tryd.prog 21 #[nmW n m t s] W (Ret (.bool false) W) by
      have := rRightName_c n m t s W
      rw [decide_eq_false hc] at this
      exact this)
    clear hc hTo hd h2
    go_enter Tryd.func5, Tryd.ntmps5
    go_wp2_with fail
    have X0 := RowAt.new w #[.int .u32 n, .int .u32 m, .int .u64 t, .int .u32 s] 31
    have D0 := below_alloc w (.cells #[.int .u32 n, .int .u32 m, .int .u64 t, .int .u32 s] 31)
    refine (HTX.out _ (HT.out.up D0)).mono ?_
    rintro en w1 ⟨rfl, hb1⟩
    have D1 := below_up D0 hb1
    replace X0 := X0.below hb1
    have x0 := X0.cell (i := 0) rfl
    have x1 := X0.cell (i := 1) rfl
    have x2 := X0.cell (i := 2) rfl
    have x3 := X0.cell (i := 3) rfl
    clear hb1 D0
    go_wp2_with fail
    refine (HIT.out _).mono ?_
    rintro en w2 ⟨hb2, r8, rfl, hi8⟩
    obtain ⟨k8, n8, ba8, bn8, bc8, s8, la8, ln8, lc8, rfl⟩ := hi8.shape
    have hs2 := hb2.size
    have D2 := (below_up D1 hb2).trans ((below_alloc w2 (.cells (rwC ⟨k8, n8, .slice ba8 bn8 bc8, s8, .slice la8 ln8 lc8⟩).toArray 48)).mono (below_up D1 hb2).size)
    have X2 := RowAt.new w2 (rwC ⟨k8, n8, .slice ba8 bn8 bc8, s8, .slice la8 ln8 lc8⟩).toArray 48
    replace X0 := (X0.below hb2).below (below_alloc w2 (.cells (rwC ⟨k8, n8, .slice ba8 bn8 bc8, s8, .slice la8 ln8 lc8⟩).toArray 48))
    replace hi8 := (hi8.up (below_alloc w2 (.cells (rwC ⟨k8, n8, .slice ba8 bn8 bc8, s8, .slice la8 ln8 lc8⟩).toArray 48))).mono (S' := fun k => k < w2.heap.size) (fun k e => e.2)
    clear x0 x1 x2 x3
    have x0 := X0.cell (i := 0) rfl
    have x1 := X0.cell (i := 1) rfl
    have x2 := X0.cell (i := 2) rfl
    have x3 := X0.cell (i := 3) rfl
    clear hb2 D1
    have HI8 := Lib.hid hi8
    clear hi8
    go_wp2_with fail
    refine (HCK.out _).mono ?_
    rintro en w3 ⟨rfl, hb3⟩
    have D3 := below_up D2 hb3
    replace X0 := X0.below hb3
    replace X2 := X2.below hb3
    have hi8 := HI8.out.up hb3
    clear x0 x1 x2 x3 HI8
    have x0 := X0.cell (i := 0) rfl
    have x1 := X0.cell (i := 1) rfl
    have x2 := X0.cell (i := 2) rfl
    have x3 := X0.cell (i := 3) rfl
    have HI8 := Lib.hid hi8
    clear hb3 D2 hi8
    go_wp2_with fail
    refine (HRI.out _).mono ?_
    rintro en w4 ⟨rfl, hb4⟩
    have D4 := below_up D3 hb4
    replace X2 := X2.below hb4
    have hi8 := HI8.out.up hb4
    clear x0 x1 x2 x3 HI8 X0
    have y0 := X2.cell (i := 0) rfl
    have y1 := X2.cell (i := 1) rfl
    have y2 := X2.cell (i := 2) rfl
    have y3 := X2.cell (i := 3) rfl
    have y4 := X2.cell (i := 4) rfl
    have hsm := fun (_ : Unit) => sameR_c (fun k => k < w2.heap.size) zI zI _ _ w4 hi8 (itZ _ w4) (by decide) (by decide)
    rw [sameB_refl] at hsm
    have HSM := Lib.hid hsm
    clear hb4 D3 hi8 hsm
    go_wp2_with (first
      | (go_at_call 19; refine (HSM.out ()).mono ?_; rintro en w5 ⟨rfl, hb5⟩; have D5 := below_up D4 hb5)
      | (go_at_call 14; with_reducible refine (numL_c _ _).mono ?_; rintro en wn ⟨rfl, rfl⟩)
      | (go_at_call 9; refine (nmWorks_c _ (HT.out.up D5)).mono ?_; rintro en w7 ⟨rfl, hb7⟩))
    go_ret
    exact ⟨rfl, below_up D5 hb7⟩
end Go.Proofs.YtpfgepgjpnekdaaDoor

namespace Go.Proofs.YtpfgepgjpnekdaaDoor
open Go.RowKit Trc Cb
set_option linter.unusedVariables false
theorem nat_u32 {a : Int} (h : (Lit.int .u32 a).wf = true) : ∃ k : Nat, a = k ∧ k < 4294967296 := by
  simp [Lit.wf, IntKind.min, IntKind.max, IntKind.signed, IntKind.bits] at h
  exact ⟨a.toNat, by omega, by omega⟩
theorem nat_u64 {a : Int} (h : (Lit.int .u64 a).wf = true) : ∃ k : Nat, a = k ∧ k < 18446744073709551616 := by
  simp [Lit.wf, IntKind.min, IntKind.max, IntKind.signed, IntKind.bits] at h
  exact ⟨a.toNat, by omega, by omega⟩
theorem nameNames_l (a0 : Int) (h0 : (Lit.int .u32 a0).wf = true) (a1 : Int) (h1 : (Lit.int .u32 a1).wf = true) (a2 : Int) (h2 : (Lit.int .u64 a2).wf = true) (a3 : Int) (h3 : (Lit.int .u32 a3).wf = true) (w : World) (hT : NmT w) : Calls Tryd.prog 5 #[.agg #[.int .u32 a0, .int .u32 a1, .int .u64 a2, .int .u32 a3]] w (Ret (.bool true) w) := by
  obtain ⟨k0, rfl, b0⟩ := nat_u32 h0
  obtain ⟨k1, rfl, b1⟩ := nat_u32 h1
  obtain ⟨k2, rfl, b2⟩ := nat_u64 h2
  obtain ⟨k3, rfl, b3⟩ := nat_u32 h3
  exact nameNames_law k0 k1 k2 k3 b0 b1 b2 b3 w hT
end Go.Proofs.YtpfgepgjpnekdaaDoor

namespace Go.Proofs.YtpfgepgjpnekdaaDoor.nameNamesRow
open Go.ChangeShapes Go.WideShapes Go.ChangeAt Go.RowKit
open Go.ChangeMaps (open_string shut_string)
set_option linter.unusedVariables false

theorem own : ownKnob Tryd.prog.godebug = none := by kernel_rfl
theorem laidOut : laidOutB Tryd.prog = true := by kernel_rfl

open Go.Lib
/-- Where the witness's own objects lie. -/
noncomputable def low : Nat := (World.holding Tryd.prog default ⟨#[], #[], []⟩).heap.size
/-- A world that meets the condition: the settled one, the variables laid. -/
noncomputable def laidWorld (os : Os) : World :=
  let w0 := World.holding Tryd.prog os ⟨#[.cells #[.string ⟨#[118, 97, 108, 117, 101, 32, 111, 117, 116, 32, 111, 102, 32, 114, 97, 110, 103, 101]⟩] 167, .cells #[.string ⟨#[105, 110, 118, 97, 108, 105, 100, 32, 115, 121, 110, 116, 97, 120]⟩] 167], #[], []⟩
  let put (h : Array Obj) (g : Nat) (cs : Array Value) : Array Obj := h.modify g fun
    | .cells _ t frozen => .cells cs t frozen
    | o => o
  let h1 := put w0.heap 3 (cellsD Rows.laid_math_bits_deBruijn32tab)
  let h2 := put h1 4 (cellsD Rows.laid_math_bits_deBruijn64tab)
  let h3 := put h2 2 (cellsD Rows.laid_internal_strconv_uint64pow10)
  let h4 := put h3 1 #[.iface 165 (.pointer (some ⟨low + 0, 0, none⟩))]
  let h5 := put h4 0 #[.iface 165 (.pointer (some ⟨low + 1, 0, none⟩))]
  { w0 with heap := h5 }
theorem laid_met (os : Os) (args : Array Value) : laidMet Tryd.prog Rows.nameNamesRow.laid ((laidWorld os).forCall (fun _ _ => 0) ⟨#[], args, []⟩).memory :=
  (LaidIn.of_run (l := [("math/bits.deBruijn32tab", Rows.laid_math_bits_deBruijn32tab), ("math/bits.deBruijn64tab", Rows.laid_math_bits_deBruijn64tab), ("internal/strconv.uint64pow10", Rows.laid_internal_strconv_uint64pow10), ("strconv.ErrRange", Rows.laid_strconv_ErrRange), ("strconv.ErrSyntax", Rows.laid_strconv_ErrSyntax)]) [3, 4, 2, 1, low + 0, 0, low + 1] 8 (by kernel_rfl) (by kernel_rfl) (by kernel_rfl) (by kernel_rfl)).met
theorem witness_row (os : Os) {H : Type} (enc : TypeId × Value → H) :
    (OpenSpec.ofChange Rows.nameNamesSpec).preRow enc Tryd.prog Tryd.f5 Rows.nameNamesRow.domain false Rows.nameNamesRow.laid ((laidWorld os).forCall (fun _ _ => 0) ⟨#[], #[.agg #[.int .u32 0, .int .u32 0, .int .u64 0, .int .u32 0]], []⟩).memory #[.agg #[.int .u32 0, .int .u32 0, .int .u64 0, .int .u32 0]] := by
  have hw : (DataW.whole enc Tryd.prog ((laidWorld os).forCall (fun _ _ => 0) ⟨#[], #[.agg #[.int .u32 0, .int .u32 0, .int .u64 0, .int .u32 0]], []⟩).memory Tryd.f5.params.toList (OpenSpec.ofChange Rows.nameNamesSpec).vars false (#[.agg #[.int .u32 0, .int .u32 0, .int .u64 0, .int .u32 0]] : Array Value).toList 8).map (fun x => (x.1, x.2.1)) =
      some ([.agg [.agg [.lit (.int .u32 0), .lit (.int .u32 0)], .lit (.int .u64 0), .lit (.int .u32 0)]], []) := by kernel_rfl
  obtain ⟨⟨x1, x2, x3⟩, hx, hx1⟩ := Option.map_eq_some_iff.1 hw
  simp only [Prod.mk.injEq] at hx1
  obtain ⟨rfl, rfl⟩ := hx1
  exact OpenSpec.preRow_of_cond 8 hx (by kernel_rfl) (fun k hk => by cases hk) (by kernel_rfl) (laid_met os _)

set_option maxRecDepth 100000 in
theorem lifted (os : Os) (started : os.Started) (H : Type) (enc : TypeId × Value → H) :
    ReturnsInHanded {} Tryd.checked os 5 .any ((OpenSpec.ofChange Rows.nameNamesSpec).preRow enc Tryd.prog Tryd.f5 Rows.nameNamesRow.domain false Rows.nameNamesRow.laid) (Rows.nameNamesSpec.post enc Tryd.prog Tryd.f5 false true false false) := by
  refine returnsInHanded_of_row (C := Tryd.checked) (s := OpenSpec.ofChange Rows.nameNamesSpec) (F := fun _ _ _ => 0) own started (by kernel_rfl) Tryd.func5
    (witness_row_atRef (enc := enc) (C := Tryd.checked) false (laidWorld os) #[.agg #[.int .u32 0, .int .u32 0, .int .u64 0, .int .u32 0]] rfl (by kernel_rfl) (by kernel_rfl) (by kernel_rfl) (witness_row os enc)) ?_
  intro W base args ds gs before hval0 hW hcnd _ hsz0 hL hshp _
  have hsz : (DataW.weightsEach Tryd.prog (Tryd.f5.params.toList ++ Rows.nameNamesSpec.plain.varTypes Tryd.prog) (ds ++ gs)).all (· ≤ reachBytes) = true := hsz0
  have hval : ∀ (j : Nat) t v, Tryd.f5.params[j]? = some t → args[j]? = some v → Value.okWide Tryd.prog W .any base t v := hval0
  have hN : NmT W := nmT_of (show (Rows.laid_internal_strconv_uint64pow10 : DataW Unit) = Lib.tabData .u64 Lib.pow10Tab by kernel_rfl)
    (Lib.laidMet.reads hL (n := "internal/strconv.uint64pow10") (d := Rows.laid_internal_strconv_uint64pow10) ((.tail _ (.tail _ (.head _)))))
    (Lib.laidMet.reads hL (n := "strconv.ErrRange") (d := Rows.laid_strconv_ErrRange) ((.tail _ (.tail _ (.tail _ (.head _))))))
    (Lib.laidMet.reads hL (n := "strconv.ErrSyntax") (d := Rows.laid_strconv_ErrSyntax) ((.tail _ (.tail _ (.tail _ (.tail _ (.head _)))))))
  have hW' := hW
  obtain ⟨p, q, hA0, hV, rfl, hfz, hnd⟩ := hW
  have hA : DataW.TrodAll enc Tryd.prog W 0 (fun _ => true) true Tryd.f5.params.toList args.toList ds p := hA0
  rw [Tryd.params5] at hA hval hsz
  obtain ⟨v0, vs0, d0, ds0, p0, q0, hargs, rfl, rfl, h0, r0⟩ := trodAll_cons hA
  obtain ⟨rfl, rfl, rfl⟩ := trodAll_nil r0
  obtain rfl : args = #[v0] := by cases args; simp_all
  obtain ⟨rfl, rfl⟩ := trodVars_none hV
  have k0 := h0
  have lt0 : ∀ x ∈ p0, x.block < W.heap.size := by obtain ⟨m, hm⟩ := k0; exact DataW.trod_lt m _ _ _ hm
  obtain ⟨cs0, rfl, hsz0⟩ : ∃ cs, v0 = .agg cs ∧ cs.size = 4 := by
    have := hval 0 31 v0 rfl rfl
    simp only [Value.okWide, Tryd.underlying31] at this
    obtain ⟨cs, h1, h2, _⟩ := this
    exact ⟨cs, h1, h2.trans (by kernel_rfl)⟩
  obtain ⟨fu0, hf0⟩ := h0
  obtain ⟨_, hl0⟩ := trod_leaves 12 _ _ _ _ [23, 23, 29, 23] hf0 (by kernel_rfl)
  obtain ⟨l0⟩ := cs0
  obtain ⟨c0_0, e0_0, L0_0⟩ := hl0 0 _ rfl
  obtain ⟨q0, rfl, wq0⟩ := Leaf.int Tryd.underlying23 L0_0
  obtain ⟨c0_1, e0_1, L0_1⟩ := hl0 1 _ rfl
  obtain ⟨q1, rfl, wq1⟩ := Leaf.int Tryd.underlying23 L0_1
  obtain ⟨c0_2, e0_2, L0_2⟩ := hl0 2 _ rfl
  obtain ⟨q2, rfl, wq2⟩ := Leaf.int Tryd.underlying29 L0_2
  obtain ⟨c0_3, e0_3, L0_3⟩ := hl0 3 _ rfl
  obtain ⟨q3, rfl, wq3⟩ := Leaf.int Tryd.underlying23 L0_3
  obtain rfl : l0 = [.int .u32 q0, .int .u32 q1, .int .u64 q2, .int .u32 q3] := by
    refine List.ext_getElem? fun i => ?_
    match i with
    | 0 => simpa [Value.cells] using e0_0
    | 1 => simpa [Value.cells] using e0_1
    | 2 => simpa [Value.cells] using e0_2
    | 3 => simpa [Value.cells] using e0_3
    | i + 4 => rw [List.getElem?_eq_none (by simp at hsz0; omega), List.getElem?_eq_none (by simp)]
  clear hA0 hval0
  refine (nameNames_l q0 wq0 q1 wq1 q2 wq2 q3 wq3 W hN).mono fun e W' ⟨he, bel⟩ => ?_
  subst he
  exact ⟨_, rfl, _, _, _, [], _, [], hW', trodAll_mk1 (shut_bool Tryd.underlying4 _), (trodAll_cons_mk (Below.trod laidOut (by kernel_rfl) (of_decide_eq_true (by kernel_rfl)) k0 bel lt0) trodAll_mk0), rfl, bel.frame _, fun h => by cases h⟩

theorem over : Rows.nameNamesRow.holds Tryd.pinned (OpenSpec.ofChange Rows.nameNamesSpec) :=
  OpenClaim.holds_of_wide 5 Tryd.f5 rfl rfl rfl rfl rfl rfl rfl ⟨rfl, rfl, rfl, rfl, rfl⟩ rfl rfl rfl rfl rfl (by kernel_rfl) Tryd.func5 (by kernel_rfl)
    (of_decide_eq_true (by kernel_rfl)) (by unfold Func.isWrapper; first | (rw [if_pos (by decide +kernel)]; kernel_rfl) | (rw [if_neg (by decide +kernel)]; exact ⟨rfl, rfl⟩))
    (fun os started H enc _ => by rw [OpenClaim.pre_eq_preRow]; exact lifted os started H enc)

theorem proved : Rows.NameNamesCardSaid :=
  Claim7.holds_tied_plain_at .later [] [.data, .data, .data, .sentinel, .sentinel] true (true, "039c7d746be2dc5819f6c862a3894bd3633ef9a7dee4d63b774f1987880c1757") true
    over (fun _ h => by cases h) (by kernel_rfl) (fun _ h => by cases h) nameNames_row_tie rfl ⟨rfl, rfl⟩ (by kernel_rfl) rfl
    (fun f fn hf hfn => by
      obtain rfl : f = 5 := Option.some.inj ((show Tryd.prog.funcNamed "packsaddle/packsaddlelaw05.NameNames" = some 5 by kernel_rfl).symm.trans hf) |>.symm
      obtain rfl : fn = Tryd.f5 := (Option.some.inj (Tryd.func5.symm.trans hfn)).symm
      exact ⟨by kernel_rfl, fun j t ht => by
        rw [Tryd.params5] at ht
        have h3 : t ∈ [31] := by
          have := List.mem_of_getElem? (by simpa using ht : ([31] : List TypeId)[j]? = some t)
          exact this
        simp only [List.mem_cons, List.not_mem_nil, or_false] at h3
        rcases h3 with rfl
        · exact (show Tryd.prog.wantsStandIn 31 = false by kernel_rfl)⟩)
    (by kernel_rfl)
#print axioms proved
end Go.Proofs.YtpfgepgjpnekdaaDoor.nameNamesRow
