/-
  NmRi: several texts in one (bundle.py).
-/
import Derived.Test.YtpfgepgjpnekdaaDoorNmI26
import Derived.Test.YtpfgepgjpnekdaaDoorNmI23
import Derived.Test.YtpfgepgjpnekdaaDoorNmI29
namespace Go.Proofs.YtpfgepgjpnekdaaDoor
open Go.RowKit Trc Cb
set_option linter.unusedSimpArgs false
set_option linter.unusedVariables false
set_option maxHeartbeats 1000000 in
set_option maxRecDepth 100000 in
theorem rText_c (n m : Nat) (hn : n < 4294967296) (hm : m < 4294967296) (h : n = 0 → m = 0) (w : World) : Calls Tryd.prog 29 #[epV n m] w (Ret (strV (Dig.toldP n m)) w) := by
  have q0 := RowAt.new w #[.int .u32 n, .int .u32 m] 25
  have hB1 := below_alloc w (.cells #[.int .u32 n, .int .u32 m] 25)
  by_cases h0 : n = 0
  · have HNB := Lib.hid (show decide (n = 0 ∧ m = 0) = true from decide_eq_true ⟨h0, h h0⟩)
    rw [show Dig.toldP n m = Dig.nobodyL from if_pos h0]
    clear h0 h
    go_enter Tryd.func29, Tryd.ntmps29
    go_wp2_with (go_at_call 48; refine (rNobody_c n m _).mono ?_; rw [HNB.out]; rintro en w1 ⟨rfl, hb1⟩)
    go_ret
    exact ⟨rfl, below_up hB1 hb1⟩
  · have HNB := Lib.hid (show decide (n = 0 ∧ m = 0) = false from decide_eq_false (fun e => h0 e.1))
    have HR := Lib.hid (show Dig.toldP n m = Dig.ipnL ++ Lib.decDigits n ++ [46] ++ Lib.decDigits m from if_neg h0)
    have dl1 := dec_len n (by omega)
    have dl2 := dec_len m (by omega)
    have hw1 : IntKind.u64.wrap (n : Int) = (n : Int) := by rw [IntKind.wrap_u64]; omega
    have hw2 : IntKind.u64.wrap (m : Int) = (m : Int) := by rw [IntKind.wrap_u64]; omega
    clear h0 h
    go_enter Tryd.func29, Tryd.ntmps29
    go_wp2_with (go_at_call 48; refine (rNobody_c n m _).mono ?_; rw [HNB.out]; rintro en w1 ⟨rfl, hb1⟩)
    refine wp_region_pt (fun _ => False) (.q 0 (.q 1 (.q 2 (.q 6 (.q 7 (.q 8 (.c 3 (.q 4 (.q 5 (.c 9 (.q 10 (.q 11 .done)))))))))))) (by kernel_rfl) (by kernel_rfl) (by kernel_rfl) (by decide) (fun _ _ d _ _ h => by cases d <;> exact h) (fun Wd hBd => ?_)
    try simp only [Act.put, List.getElem_toArray, List.getElem_cons_zero, List.getElem_cons_succ, List.setIfInBounds_toArray, List.set_cons_zero, List.set_cons_succ]
    have K0 := (q0.below hb1).below hBd
    have k0 := RowAt.cell K0 (i := 0) rfl
    have k1 := RowAt.cell K0 (i := 1) rfl
    have B0 := below_up (below_up hB1 hb1) hBd
    refine pt_q (v := ?_) rfl (by rfl) ?_ ?_
    rotate_left
    · intro w' hBw'
      first | (go_simp; done) | (go_simp; with_reducible rfl)
    try simp only [Act.put, List.getElem_toArray, List.getElem_cons_zero, List.getElem_cons_succ, List.setIfInBounds_toArray, List.set_cons_zero, List.set_cons_succ]
    refine pt_q (v := ?_) rfl (by rfl) ?_ ?_
    rotate_left
    · intro w' hBw'
      have qL := hBw'.cell k0 (fun e => e)
      first | (go_simp; done) | (go_simp; with_reducible rfl)
    try simp only [Act.put, List.getElem_toArray, List.getElem_cons_zero, List.getElem_cons_succ, List.setIfInBounds_toArray, List.set_cons_zero, List.set_cons_succ]
    refine pt_q (v := ?_) rfl (by rfl) ?_ ?_
    rotate_left
    · intro w' hBw'
      first | (go_simp; done) | (go_simp; with_reducible rfl)
    try simp only [Act.put, List.getElem_toArray, List.getElem_cons_zero, List.getElem_cons_succ, List.setIfInBounds_toArray, List.set_cons_zero, List.set_cons_succ]
    refine pt_q (v := ?_) rfl (by rfl) ?_ ?_
    rotate_left
    · intro w' hBw'
      first | (go_simp; done) | (go_simp; with_reducible rfl)
    try simp only [Act.put, List.getElem_toArray, List.getElem_cons_zero, List.getElem_cons_succ, List.setIfInBounds_toArray, List.set_cons_zero, List.set_cons_succ]
    refine pt_q (v := ?_) rfl (by rfl) ?_ ?_
    rotate_left
    · intro w' hBw'
      have qL := hBw'.cell k1 (fun e => e)
      first | (go_simp; done) | (go_simp; with_reducible rfl)
    try simp only [Act.put, List.getElem_toArray, List.getElem_cons_zero, List.getElem_cons_succ, List.setIfInBounds_toArray, List.set_cons_zero, List.set_cons_succ]
    refine pt_q (v := ?_) rfl (by rfl) ?_ ?_
    rotate_left
    · intro w' hBw'
      first | (go_simp; done) | (go_simp; with_reducible rfl)
    try simp only [Act.put, List.getElem_toArray, List.getElem_cons_zero, List.getElem_cons_succ, List.setIfInBounds_toArray, List.set_cons_zero, List.set_cons_succ]
    refine pt_c ?_
    refine pt_step rfl (by rfl) (fun K hK => ?_)
    go_simp
    refine (rNumber_c n (by omega) _).mono ?_
    rintro en w2 ⟨rfl, hb0⟩
    have B1 := below_up B0 hb0
    refine hK.out _ _ (But.of_below hb0) ?_
    clear hK K
    try simp only [Act.put, List.getElem_toArray, List.getElem_cons_zero, List.getElem_cons_succ, List.setIfInBounds_toArray, List.set_cons_zero, List.set_cons_succ]
    refine pt_cat rfl (by rfl) (.const (.string ⟨#[105, 112, 110, 58]⟩)) (.tmp 8) rfl (Dig.ipnL) (Lib.decDigits n) rfl rfl (by simp only [jn_len, Dig.ipnL, List.length_cons, List.length_nil]; omega) ?_
    try simp only [Act.put, List.getElem_toArray, List.getElem_cons_zero, List.getElem_cons_succ, List.setIfInBounds_toArray, List.set_cons_zero, List.set_cons_succ]
    refine pt_cat rfl (by rfl) (.tmp 9) (.const (.string ⟨#[46]⟩)) rfl (jn Dig.ipnL (Lib.decDigits n)) ([46]) rfl rfl (by simp only [jn_len, Dig.ipnL, List.length_cons, List.length_nil]; omega) ?_
    try simp only [Act.put, List.getElem_toArray, List.getElem_cons_zero, List.getElem_cons_succ, List.setIfInBounds_toArray, List.set_cons_zero, List.set_cons_succ]
    refine pt_c ?_
    refine pt_step rfl (by rfl) (fun K hK => ?_)
    go_simp
    refine (rNumber_c m (by omega) _).mono ?_
    rintro en w3 ⟨rfl, hb3⟩
    have B2 := below_up B1 hb3
    refine hK.out _ _ (But.of_below hb3) ?_
    clear hK K
    try simp only [Act.put, List.getElem_toArray, List.getElem_cons_zero, List.getElem_cons_succ, List.setIfInBounds_toArray, List.set_cons_zero, List.set_cons_succ]
    refine pt_cat rfl (by rfl) (.tmp 10) (.tmp 14) rfl (jn (jn Dig.ipnL (Lib.decDigits n)) [46]) (Lib.decDigits m) rfl rfl (by simp only [jn_len, Dig.ipnL, List.length_cons, List.length_nil]; omega) ?_
    try simp only [Act.put, List.getElem_toArray, List.getElem_cons_zero, List.getElem_cons_succ, List.setIfInBounds_toArray, List.set_cons_zero, List.set_cons_succ]
    refine pt_q (v := ?_) rfl (by rfl) ?_ ?_
    rotate_left
    · intro w' hBw'
      first | (go_simp; done) | (go_simp; with_reducible rfl)
    try simp only [Act.put, List.getElem_toArray, List.getElem_cons_zero, List.getElem_cons_succ, List.setIfInBounds_toArray, List.set_cons_zero, List.set_cons_succ]
    refine pt_done ?_
    go_wp2
    go_ret
    exact ⟨by rw [HR.out]; rfl, B2⟩
set_option maxHeartbeats 1000000 in
set_option maxRecDepth 100000 in
theorem rNameText_c (n m t s : Nat) (hn : n < 4294967296) (hm : m < 4294967296) (ht : t < 18446744073709551616) (hs : s < 4294967296) (h : n = 0 → m = 0) (w : World) : Calls Tryd.prog 23 #[nmW n m t s] w (Ret (strV (Dig.nameT n m t s)) w) := by
  have q0 := RowAt.new w (nmC ⟨n, m, t, s⟩).toArray 31
  have hB1 := below_alloc w (.cells (nmC ⟨n, m, t, s⟩).toArray 31)
  have dl1 := Dig.told_len n m hn hm
  have dl2 := dec_len t ht
  have dl3 := dec_len s (by omega)
  have hw1 : IntKind.u64.wrap (s : Int) = (s : Int) := by rw [IntKind.wrap_u64]; omega
  go_enter Tryd.func23, Tryd.ntmps23
  go_wp2
  refine wp_region_pt (fun _ => False) (.q 0 (.q 1 (.q 4 (.q 5 (.q 9 (.q 10 (.q 11 (.c 2 (.q 3 (.c 6 (.q 7 (.q 8 (.c 12 (.q 13 (.q 14 .done))))))))))))))) (by kernel_rfl) (by kernel_rfl) (by kernel_rfl) (by decide) (fun _ _ d _ _ h => by cases d <;> exact h) (fun Wd hBd => ?_)
  try simp only [Act.put, List.getElem_toArray, List.getElem_cons_zero, List.getElem_cons_succ, List.setIfInBounds_toArray, List.set_cons_zero, List.set_cons_succ]
  have K0 := q0.below hBd
  have k0 := RowAt.cell K0 (i := 2) rfl
  have k1 := RowAt.cell K0 (i := 3) rfl
  have B0 := below_up hB1 hBd
  refine pt_q (v := ?_) rfl (by rfl) ?_ ?_
  rotate_left
  · intro w' hBw'
    first | (go_simp; done) | (go_simp; with_reducible rfl)
  try simp only [Act.put, List.getElem_toArray, List.getElem_cons_zero, List.getElem_cons_succ, List.setIfInBounds_toArray, List.set_cons_zero, List.set_cons_succ]
  refine pt_load rfl (by rfl) 25 (.tmp 3) rfl w.heap.size 0 rfl [.int .u32 n, .int .u32 m] _ (rangeAt_sub (RowAt.range K0) 0 0 rfl (fun j hj => by match j, hj with | 0, _ => rfl | 1, _ => rfl)) (fun e => e) Tryd.underlying25 rfl (by kernel_rfl) ?_
  try simp only [Act.put, List.getElem_toArray, List.getElem_cons_zero, List.getElem_cons_succ, List.setIfInBounds_toArray, List.set_cons_zero, List.set_cons_succ]
  refine pt_q (v := ?_) rfl (by rfl) ?_ ?_
  rotate_left
  · intro w' hBw'
    first | (go_simp; done) | (go_simp; with_reducible rfl)
  try simp only [Act.put, List.getElem_toArray, List.getElem_cons_zero, List.getElem_cons_succ, List.setIfInBounds_toArray, List.set_cons_zero, List.set_cons_succ]
  refine pt_q (v := ?_) rfl (by rfl) ?_ ?_
  rotate_left
  · intro w' hBw'
    have qL := hBw'.cell k0 (fun e => e)
    first | (go_simp; done) | (go_simp; with_reducible rfl)
  try simp only [Act.put, List.getElem_toArray, List.getElem_cons_zero, List.getElem_cons_succ, List.setIfInBounds_toArray, List.set_cons_zero, List.set_cons_succ]
  refine pt_q (v := ?_) rfl (by rfl) ?_ ?_
  rotate_left
  · intro w' hBw'
    first | (go_simp; done) | (go_simp; with_reducible rfl)
  try simp only [Act.put, List.getElem_toArray, List.getElem_cons_zero, List.getElem_cons_succ, List.setIfInBounds_toArray, List.set_cons_zero, List.set_cons_succ]
  refine pt_q (v := ?_) rfl (by rfl) ?_ ?_
  rotate_left
  · intro w' hBw'
    have qL := hBw'.cell k1 (fun e => e)
    first | (go_simp; done) | (go_simp; with_reducible rfl)
  try simp only [Act.put, List.getElem_toArray, List.getElem_cons_zero, List.getElem_cons_succ, List.setIfInBounds_toArray, List.set_cons_zero, List.set_cons_succ]
  refine pt_q (v := ?_) rfl (by rfl) ?_ ?_
  rotate_left
  · intro w' hBw'
    first | (go_simp; done) | (go_simp; with_reducible rfl)
  try simp only [Act.put, List.getElem_toArray, List.getElem_cons_zero, List.getElem_cons_succ, List.setIfInBounds_toArray, List.set_cons_zero, List.set_cons_succ]
  refine pt_c ?_
  refine pt_step rfl (by rfl) (fun K hK => ?_)
  go_simp
  refine (rText_c n m hn hm h _).mono ?_
  rintro en w1 ⟨rfl, hb0⟩
  have B1 := below_up B0 hb0
  refine hK.out _ _ (But.of_below hb0) ?_
  clear hK K
  try simp only [Act.put, List.getElem_toArray, List.getElem_cons_zero, List.getElem_cons_succ, List.setIfInBounds_toArray, List.set_cons_zero, List.set_cons_succ]
  refine pt_cat rfl (by rfl) (.tmp 5) (.const (.string ⟨#[32]⟩)) rfl (Dig.toldP n m) ([32]) rfl rfl (by simp only [jn_len, Dig.ipnL, List.length_cons, List.length_nil]; omega) ?_
  try simp only [Act.put, List.getElem_toArray, List.getElem_cons_zero, List.getElem_cons_succ, List.setIfInBounds_toArray, List.set_cons_zero, List.set_cons_succ]
  refine pt_c ?_
  refine pt_step rfl (by rfl) (fun K hK => ?_)
  go_simp
  refine (rNumber_c t ht _).mono ?_
  rintro en w2 ⟨rfl, hb1⟩
  have B2 := below_up B1 hb1
  refine hK.out _ _ (But.of_below hb1) ?_
  clear hK K
  try simp only [Act.put, List.getElem_toArray, List.getElem_cons_zero, List.getElem_cons_succ, List.setIfInBounds_toArray, List.set_cons_zero, List.set_cons_succ]
  refine pt_cat rfl (by rfl) (.tmp 6) (.tmp 9) rfl (jn (Dig.toldP n m) [32]) (Lib.decDigits t) rfl rfl (by simp only [jn_len, Dig.ipnL, List.length_cons, List.length_nil]; omega) ?_
  try simp only [Act.put, List.getElem_toArray, List.getElem_cons_zero, List.getElem_cons_succ, List.setIfInBounds_toArray, List.set_cons_zero, List.set_cons_succ]
  refine pt_cat rfl (by rfl) (.tmp 10) (.const (.string ⟨#[32]⟩)) rfl (jn (jn (Dig.toldP n m) [32]) (Lib.decDigits t)) ([32]) rfl rfl (by simp only [jn_len, Dig.ipnL, List.length_cons, List.length_nil]; omega) ?_
  try simp only [Act.put, List.getElem_toArray, List.getElem_cons_zero, List.getElem_cons_succ, List.setIfInBounds_toArray, List.set_cons_zero, List.set_cons_succ]
  refine pt_c ?_
  refine pt_step rfl (by rfl) (fun K hK => ?_)
  go_simp
  refine (rNumber_c s (by omega) _).mono ?_
  rintro en w3 ⟨rfl, hb2⟩
  have B3 := below_up B2 hb2
  refine hK.out _ _ (But.of_below hb2) ?_
  clear hK K
  try simp only [Act.put, List.getElem_toArray, List.getElem_cons_zero, List.getElem_cons_succ, List.setIfInBounds_toArray, List.set_cons_zero, List.set_cons_succ]
  refine pt_cat rfl (by rfl) (.tmp 11) (.tmp 15) rfl (jn (jn (jn (Dig.toldP n m) [32]) (Lib.decDigits t)) [32]) (Lib.decDigits s) rfl rfl (by simp only [jn_len, Dig.ipnL, List.length_cons, List.length_nil]; omega) ?_
  try simp only [Act.put, List.getElem_toArray, List.getElem_cons_zero, List.getElem_cons_succ, List.setIfInBounds_toArray, List.set_cons_zero, List.set_cons_succ]
  refine pt_q (v := ?_) rfl (by rfl) ?_ ?_
  rotate_left
  · intro w' hBw'
    first | (go_simp; done) | (go_simp; with_reducible rfl)
  try simp only [Act.put, List.getElem_toArray, List.getElem_cons_zero, List.getElem_cons_succ, List.setIfInBounds_toArray, List.set_cons_zero, List.set_cons_succ]
  refine pt_done ?_
  go_wp2
  go_ret
  exact ⟨rfl, B3⟩
set_option maxRecDepth 100000 in
theorem rUint_c (n : Nat) (w : World) : Calls Tryd.prog 70 #[.int .u64 n] w (Ret (rwV (rU n)) w) := by
  go_enter Tryd.func70, Tryd.ntmps70
  go_wp2
  refine bodyPost_ret (v := rwV (rU n)) (by simp [results, Tryd.results70, go_sem]) rfl ?_
  exact ⟨rfl, below_alloc _ _⟩
theorem rUint0 (w : World) : Calls Tryd.prog 70 #[.int .u64 0] w (Ret (rwV (rU 0)) w) := rUint_c 0 w
theorem rUint1 (w : World) : Calls Tryd.prog 70 #[.int .u64 1] w (Ret (rwV (rU 1)) w) := rUint_c 1 w
theorem rUint2 (w : World) : Calls Tryd.prog 70 #[.int .u64 2] w (Ret (rwV (rU 2)) w) := rUint_c 2 w
set_option maxRecDepth 100000 in
theorem rList_c (a : Option Addr) (n c : Nat) (w : World) : Calls Tryd.prog 69 #[.slice a n c] w (Ret (rwV (rL (.slice a n c))) w) := by
  go_enter Tryd.func69, Tryd.ntmps69
  go_wp2
  refine bodyPost_ret (v := rwV (rL (.slice a n c))) (by simp [results, Tryd.results69, go_sem]) rfl ?_
  exact ⟨rfl, below_alloc _ _⟩
set_option maxHeartbeats 2000000 in
set_option maxRecDepth 100000 in
theorem rItem_c (n m : Nat) (hn : n < 4294967296) (hm : m < 4294967296) (h : n = 0 → m = 0) (w : World) : Calls Tryd.prog 30 #[epV n m] w (MadeE (epI n m) w) := by
  obtain ⟨iI, hiI, hzI, hsI, _⟩ := infoIt
  have Q0 := RowAt.new w #[.int .u32 n, .int .u32 m] 25
  have Z0 := RowAt.new (w.alloc (.cells #[.int .u32 n, .int .u32 m] 25)) (rwC rZ).toArray 48
  have Q1 := Q0.alloc (.cells (rwC rZ).toArray 48)
  have hB1 : Below w.heap.size w ((w.alloc (.cells #[.int .u32 n, .int .u32 m] 25)).alloc (.cells (rwC rZ).toArray 48)) := (below_alloc w _).alloc (by simp) _
  simp only [World.size_alloc] at Z0
  by_cases h0 : n = 0
  · have HNB := Lib.hid (show decide (n = 0 ∧ m = 0) = true from decide_eq_true ⟨h0, h h0⟩)
    rw [show epI n m = lI [uI 1, uI 0] from if_pos h0]
    clear h0 h
    go_enter Tryd.func30, Tryd.ntmps30
    go_wp2_with (first
      | (go_at_call 48; refine (rNobody_c n m _).mono ?_; rw [HNB.out]; rintro en w1 ⟨rfl, hb1⟩)
      | (go_at_call 70; (with_reducible refine (rUint1 _).mono ?_); rintro en w1' ⟨rfl, hb1'⟩)
      | (go_at_call 70; (with_reducible refine (rUint0 _).mono ?_); rintro en w2 ⟨rfl, hb2⟩))
    have hqa := below_alloc w2 (.cells ([rU 1, rU 0].flatMap rwC).toArray 48)
    have HB2 := RowAt.new w2 ([rU 1, rU 0].flatMap rwC).toArray 48
    change Calls _ _ _ (w2.alloc (.cells ([rU 1, rU 0].flatMap rwC).toArray 48)) _
    obtain ⟨W2, hW2⟩ : ∃ x, w2.alloc (.cells ([rU 1, rU 0].flatMap rwC).toArray 48) = x := ⟨_, rfl⟩
    rw [hW2] at hqa HB2 ⊢
    refine (rList_c _ _ _ _).mono ?_
    rintro en w3 ⟨rfl, hb3⟩
    have hb12 := below_up hb1 (below_up hb1' hb2)
    have hb13 := below_up hb12 (below_up hqa hb3)
    have D3 := below_up hB1 hb13
    have Z3 := Z0.below hb13
    have B3 := HB2.below hb3
    have hlow : w.heap.size + 2 ≤ w2.heap.size := RowAt.lt (Z0.below hb12)
    clear hW2
    have z0 := RowAt.cell Z3 (i := 0) rfl
    have z1 := RowAt.cell Z3 (i := 1) rfl
    have z2 := RowAt.cell Z3 (i := 2) rfl
    have z3 := RowAt.cell Z3 (i := 3) rfl
    have z4 := RowAt.cell Z3 (i := 4) rfl
    have f0 := RowAt.fz Z3 0
    have f1 := RowAt.fz Z3 1
    have f2 := RowAt.fz Z3 2
    have f3 := RowAt.fz Z3 3
    have f4 := RowAt.fz Z3 4
    go_wp2
    obtain ⟨h5, hb5⟩ := set5 Z3 (.int .i64 4) (.int .u64 0) (.slice none 0 0) (.string ⟨#[]⟩) (.slice (some ⟨w2.heap.size, 0, none⟩) 2 2)
    have B5 := (hb5.same _ B3.lt (by omega)).trans B3
    obtain ⟨W5, hW5⟩ : ∃ x, (((((w3.setCell ⟨w.heap.size + 1, 0, none⟩ (.int .i64 4)).setCell ⟨w.heap.size + 1, 1, none⟩ (.int .u64 0)).setCell ⟨w.heap.size + 1, 2, none⟩ (.slice none 0 0)).setCell ⟨w.heap.size + 1, 3, none⟩ (.string ⟨#[]⟩)).setCell ⟨w.heap.size + 1, 4, none⟩ (.slice (some ⟨w2.heap.size, 0, none⟩) 2 2)) = x := ⟨_, rfl⟩
    rw [hW5] at h5 hb5 B5 ⊢
    have g0 := RowAt.cell h5 (i := 0) rfl
    have g1 := RowAt.cell h5 (i := 1) rfl
    have g2 := RowAt.cell h5 (i := 2) rfl
    have g3 := RowAt.cell h5 (i := 3) rfl
    have g4 := RowAt.cell h5 (i := 4) rfl
    refine bodyPost_ret (v := rwV (rL (.slice (some ⟨w2.heap.size, 0, none⟩) 2 2))) (by simp [results, Tryd.results30, go_sem, g0, g1, g2, g3, g4]) rfl ?_
    refine ⟨D3.trans (hb5.below (fun k e => by omega) D3.size), _, rfl, itL (its2 (itU _ _ 1 (by decide)) (itU _ _ 0 (by decide))) B5 ⟨by omega, RowAt.lt B5⟩ (by decide)⟩
  · have HNB := Lib.hid (show decide (n = 0 ∧ m = 0) = false from decide_eq_false (fun e => h0 e.1))
    rw [show epI n m = lI [uI 2, lI [uI n, uI m]] from if_neg h0]
    have hw1 : IntKind.u64.wrap (n : Int) = (n : Int) := by rw [IntKind.wrap_u64]; omega
    have hw2 : IntKind.u64.wrap (m : Int) = (m : Int) := by rw [IntKind.wrap_u64]; omega
    clear h0 h
    go_enter Tryd.func30, Tryd.ntmps30
    go_wp2_with (go_at_call 48; refine (rNobody_c n m _).mono ?_; rw [HNB.out]; rintro en w1 ⟨rfl, hb1⟩)
    refine wp_region_pt (fun k => k = w.heap.size + 1) (.q 1 (.q 2 (.q 3 (.q 5 (.q 6 (.q 7 (.c 0 (.c 4 (.c 8 (.c 9 (.c 10 (.c 11 (.c 12 (.c 13 .done)))))))))))))) (by kernel_rfl) (by kernel_rfl) (by kernel_rfl) (by decide) (fun _ _ d _ _ h => by cases d <;> exact h) (fun Wd hBd => ?_)
    try simp only [Act.put, List.getElem_toArray, List.getElem_cons_zero, List.getElem_cons_succ, List.setIfInBounds_toArray, List.set_cons_zero, List.set_cons_succ]
    have hBb := below_up hb1 hBd
    have B0 := below_up hB1 hBb
    have Zd := Z0.below hBb
    have k0 := RowAt.cell (Q1.below hBb) (i := 0) rfl
    have k1 := RowAt.cell (Q1.below hBb) (i := 1) rfl
    have hs0 : w.heap.size + 2 ≤ Wd.heap.size := RowAt.lt Zd
    refine pt_q (v := ?_) rfl (by rfl) ?_ ?_
    rotate_left
    · intro w' hBw'
      first | (go_simp; done) | (go_simp; with_reducible rfl)
    try simp only [Act.put, List.getElem_toArray, List.getElem_cons_zero, List.getElem_cons_succ, List.setIfInBounds_toArray, List.set_cons_zero, List.set_cons_succ]
    refine pt_q (v := ?_) rfl (by rfl) ?_ ?_
    rotate_left
    · intro w' hBw'
      have qL := hBw'.cell k0 (by omega)
      first | (go_simp; done) | (go_simp; with_reducible rfl)
    try simp only [Act.put, List.getElem_toArray, List.getElem_cons_zero, List.getElem_cons_succ, List.setIfInBounds_toArray, List.set_cons_zero, List.set_cons_succ]
    refine pt_q (v := ?_) rfl (by rfl) ?_ ?_
    rotate_left
    · intro w' hBw'
      first | (go_simp; done) | (go_simp; with_reducible rfl)
    try simp only [Act.put, List.getElem_toArray, List.getElem_cons_zero, List.getElem_cons_succ, List.setIfInBounds_toArray, List.set_cons_zero, List.set_cons_succ]
    refine pt_q (v := ?_) rfl (by rfl) ?_ ?_
    rotate_left
    · intro w' hBw'
      first | (go_simp; done) | (go_simp; with_reducible rfl)
    try simp only [Act.put, List.getElem_toArray, List.getElem_cons_zero, List.getElem_cons_succ, List.setIfInBounds_toArray, List.set_cons_zero, List.set_cons_succ]
    refine pt_q (v := ?_) rfl (by rfl) ?_ ?_
    rotate_left
    · intro w' hBw'
      have qL := hBw'.cell k1 (by omega)
      first | (go_simp; done) | (go_simp; with_reducible rfl)
    try simp only [Act.put, List.getElem_toArray, List.getElem_cons_zero, List.getElem_cons_succ, List.setIfInBounds_toArray, List.set_cons_zero, List.set_cons_succ]
    refine pt_q (v := ?_) rfl (by rfl) ?_ ?_
    rotate_left
    · intro w' hBw'
      first | (go_simp; done) | (go_simp; with_reducible rfl)
    try simp only [Act.put, List.getElem_toArray, List.getElem_cons_zero, List.getElem_cons_succ, List.setIfInBounds_toArray, List.set_cons_zero, List.set_cons_succ]
    refine pt_c ?_
    refine pt_step rfl (by rfl) (fun K hK => ?_)
    go_simp
    refine (rUint2 _).mono ?_
    rintro en w1' ⟨rfl, hb1'⟩
    refine hK.out _ _ (But.of_below hb1') ?_
    clear hK K
    try simp only [Act.put, List.getElem_toArray, List.getElem_cons_zero, List.getElem_cons_succ, List.setIfInBounds_toArray, List.set_cons_zero, List.set_cons_succ]
    refine pt_c ?_
    refine pt_step rfl (by rfl) (fun K hK => ?_)
    go_simp
    refine (rUint_c n _).mono ?_
    rintro en w2 ⟨rfl, hb2⟩
    refine hK.out _ _ (But.of_below hb2) ?_
    clear hK K
    try simp only [Act.put, List.getElem_toArray, List.getElem_cons_zero, List.getElem_cons_succ, List.setIfInBounds_toArray, List.set_cons_zero, List.set_cons_succ]
    refine pt_c ?_
    refine pt_step rfl (by rfl) (fun K hK => ?_)
    go_simp
    refine (rUint_c m _).mono ?_
    rintro en w3 ⟨rfl, hb3⟩
    refine hK.out _ _ (But.of_below hb3) ?_
    clear hK K
    try simp only [Act.put, List.getElem_toArray, List.getElem_cons_zero, List.getElem_cons_succ, List.setIfInBounds_toArray, List.set_cons_zero, List.set_cons_succ]
    refine pt_c ?_
    refine pt_buildSlice rfl (by rfl) 46 48 2 #[(0, .tmp 13), (1, .tmp 17)] rfl ([rU n, rU m].flatMap rwC).toArray iI _ Tryd.underlying46 hiI hzI (by rw [hsI]; decide) (by rw [hsI]; decide) [(0, rwV (rU n)), (1, rwV (rU m))] rfl (by rw [hsI]; exact filled2 _ _) ?_
    try simp only [Act.put, List.getElem_toArray, List.getElem_cons_zero, List.getElem_cons_succ, List.setIfInBounds_toArray, List.set_cons_zero, List.set_cons_succ]
    have I4 := RowAt.new w3 ([rU n, rU m].flatMap rwC).toArray 48
    have hq4 := below_alloc w3 (.cells ([rU n, rU m].flatMap rwC).toArray 48)
    obtain ⟨W4, hW4⟩ : ∃ x, w3.alloc (.cells ([rU n, rU m].flatMap rwC).toArray 48) = x := ⟨_, rfl⟩
    rw [hW4] at I4 hq4 ⊢
    refine pt_c ?_
    refine pt_step rfl (by rfl) (fun K hK => ?_)
    go_simp
    refine (rList_c _ _ _ _).mono ?_
    rintro en w6 ⟨rfl, hb6⟩
    refine hK.out _ _ (But.of_below hb6) ?_
    clear hK K
    try simp only [Act.put, List.getElem_toArray, List.getElem_cons_zero, List.getElem_cons_succ, List.setIfInBounds_toArray, List.set_cons_zero, List.set_cons_succ]
    refine pt_c ?_
    refine pt_buildSlice rfl (by rfl) 46 48 2 #[(0, .tmp 9), (1, .tmp 19)] rfl ([rU 2, rL (.slice (some ⟨w3.heap.size, 0, none⟩) 2 2)].flatMap rwC).toArray iI _ Tryd.underlying46 hiI hzI (by rw [hsI]; decide) (by rw [hsI]; decide) [(0, rwV (rU 2)), (1, rwV (rL (.slice (some ⟨w3.heap.size, 0, none⟩) 2 2)))] rfl (by rw [hsI]; exact filled2 _ _) ?_
    try simp only [Act.put, List.getElem_toArray, List.getElem_cons_zero, List.getElem_cons_succ, List.setIfInBounds_toArray, List.set_cons_zero, List.set_cons_succ]
    have O7 := RowAt.new w6 ([rU 2, rL (.slice (some ⟨w3.heap.size, 0, none⟩) 2 2)].flatMap rwC).toArray 48
    have hq7 := below_alloc w6 (.cells ([rU 2, rL (.slice (some ⟨w3.heap.size, 0, none⟩) 2 2)].flatMap rwC).toArray 48)
    obtain ⟨W7, hW7⟩ : ∃ x, w6.alloc (.cells ([rU 2, rL (.slice (some ⟨w3.heap.size, 0, none⟩) 2 2)].flatMap rwC).toArray 48) = x := ⟨_, rfl⟩
    rw [hW7] at O7 hq7 ⊢
    refine pt_c ?_
    refine pt_step rfl (by rfl) (fun K hK => ?_)
    go_simp
    refine (rList_c _ _ _ _).mono ?_
    rintro en w8 ⟨rfl, hb8⟩
    refine hK.out _ _ (But.of_below hb8) ?_
    clear hK K
    try simp only [Act.put, List.getElem_toArray, List.getElem_cons_zero, List.getElem_cons_succ, List.setIfInBounds_toArray, List.set_cons_zero, List.set_cons_succ]
    have hs3 : w.heap.size + 2 ≤ w3.heap.size := RowAt.lt (Zd.below (below_up hb1' (below_up hb2 hb3)))
    have hs6 : w3.heap.size < w6.heap.size := RowAt.lt (RowAt.below I4 hb6)
    have h18 := below_up hb1' (below_up hb2 (below_up hb3 (below_up hq4 (below_up hb6 (below_up hq7 hb8)))))
    have Z8 := Zd.below h18
    have D8 := below_up B0 h18
    have I8 := RowAt.below I4 (below_up hb6 (below_up hq7 hb8))
    have O8 := RowAt.below O7 hb8
    refine pt_c ?_
    refine pt_put_row rfl (by rfl) 48 _ _ rfl (w.heap.size + 1) (rwC (rL (.slice (some ⟨w6.heap.size, 0, none⟩) 2 2))) rfl rfl Z8 rfl (by kernel_rfl) rfl rfl ?_
    try simp only [Act.put, List.getElem_toArray, List.getElem_cons_zero, List.getElem_cons_succ, List.setIfInBounds_toArray, List.set_cons_zero, List.set_cons_succ]
    intro w9 R9 hb9
    have D9 := D8.trans (hb9.below (fun k e => by omega) D8.size)
    have I9 := (hb9.same _ (RowAt.lt I8) (by omega)).trans I8
    have O9 := (hb9.same _ (RowAt.lt O8) (by omega)).trans O8
    refine pt_done ?_
    go_wp2
    have g0 := RowAt.cell R9 (i := 0) rfl
    have g1 := RowAt.cell R9 (i := 1) rfl
    have g2 := RowAt.cell R9 (i := 2) rfl
    have g3 := RowAt.cell R9 (i := 3) rfl
    have g4 := RowAt.cell R9 (i := 4) rfl
    refine bodyPost_ret (v := rwV (rL (.slice (some ⟨w6.heap.size, 0, none⟩) 2 2))) (by simp [results, Tryd.results30, go_sem, g0, g1, g2, g3, g4]) rfl ?_
    refine ⟨D9, _, rfl, itL (its2 (itU _ _ 2 (by decide)) (itL (its2 (itU _ _ n (by omega)) (itU _ _ m (by omega))) I9 ⟨by omega, RowAt.lt I9⟩ (by show 2 ≤ 1000; decide))) O9 ⟨by omega, RowAt.lt O9⟩ (by show 2 ≤ 1000; decide)⟩
set_option maxHeartbeats 2000000 in
set_option maxRecDepth 100000 in
theorem rNameItem_c (n m t s : Nat) (hn : n < 4294967296) (hm : m < 4294967296) (ht : t < 18446744073709551616) (hs : s < 4294967296) (h : n = 0 → m = 0) (w : World) : Calls Tryd.prog 24 #[nmW n m t s] w (MadeE (nmI n m t s) w) := by
  obtain ⟨iI, hiI, hzI, hsI, _⟩ := infoIt
  have Q0 := RowAt.new w (nmC ⟨n, m, t, s⟩).toArray 31
  have Z0 := RowAt.new (w.alloc (.cells (nmC ⟨n, m, t, s⟩).toArray 31)) (rwC rZ).toArray 48
  have Q1 := Q0.alloc (.cells (rwC rZ).toArray 48)
  have hB1 : Below w.heap.size w ((w.alloc (.cells (nmC ⟨n, m, t, s⟩).toArray 31)).alloc (.cells (rwC rZ).toArray 48)) := (below_alloc w _).alloc (by simp) _
  simp only [World.size_alloc] at Z0
  have hw1 : IntKind.u64.wrap (s : Int) = (s : Int) := by rw [IntKind.wrap_u64]; omega
  go_enter Tryd.func24, Tryd.ntmps24
  go_wp2
  refine wp_region_pt (fun k => k = w.heap.size + 1) (.q 0 (.q 1 (.q 3 (.q 4 (.q 6 (.q 7 (.q 8 (.c 2 (.c 5 (.c 9 (.c 10 (.c 11 (.c 12 .done))))))))))))) (by kernel_rfl) (by kernel_rfl) (by kernel_rfl) (by decide) (fun _ _ d _ _ h => by cases d <;> exact h) (fun Wd hBd => ?_)
  try simp only [Act.put, List.getElem_toArray, List.getElem_cons_zero, List.getElem_cons_succ, List.setIfInBounds_toArray, List.set_cons_zero, List.set_cons_succ]
  have B0 := below_up hB1 hBd
  have Zd := Z0.below hBd
  have K0 := Q1.below hBd
  have k1 := RowAt.cell K0 (i := 2) rfl
  have k2 := RowAt.cell K0 (i := 3) rfl
  have hs0 : w.heap.size + 2 ≤ Wd.heap.size := RowAt.lt Zd
  refine pt_q (v := ?_) rfl (by rfl) ?_ ?_
  rotate_left
  · intro w' hBw'
    first | (go_simp; done) | (go_simp; with_reducible rfl)
  try simp only [Act.put, List.getElem_toArray, List.getElem_cons_zero, List.getElem_cons_succ, List.setIfInBounds_toArray, List.set_cons_zero, List.set_cons_succ]
  refine pt_load rfl (by rfl) 25 (.tmp 3) rfl w.heap.size 0 rfl [.int .u32 n, .int .u32 m] _ (rangeAt_sub (RowAt.range K0) 0 0 rfl (fun j hj => by match j, hj with | 0, _ => rfl | 1, _ => rfl)) (by omega) Tryd.underlying25 rfl (by kernel_rfl) ?_
  try simp only [Act.put, List.getElem_toArray, List.getElem_cons_zero, List.getElem_cons_succ, List.setIfInBounds_toArray, List.set_cons_zero, List.set_cons_succ]
  refine pt_q (v := ?_) rfl (by rfl) ?_ ?_
  rotate_left
  · intro w' hBw'
    first | (go_simp; done) | (go_simp; with_reducible rfl)
  try simp only [Act.put, List.getElem_toArray, List.getElem_cons_zero, List.getElem_cons_succ, List.setIfInBounds_toArray, List.set_cons_zero, List.set_cons_succ]
  refine pt_q (v := ?_) rfl (by rfl) ?_ ?_
  rotate_left
  · intro w' hBw'
    have qL := hBw'.cell k1 (by omega)
    first | (go_simp; done) | (go_simp; with_reducible rfl)
  try simp only [Act.put, List.getElem_toArray, List.getElem_cons_zero, List.getElem_cons_succ, List.setIfInBounds_toArray, List.set_cons_zero, List.set_cons_succ]
  refine pt_q (v := ?_) rfl (by rfl) ?_ ?_
  rotate_left
  · intro w' hBw'
    first | (go_simp; done) | (go_simp; with_reducible rfl)
  try simp only [Act.put, List.getElem_toArray, List.getElem_cons_zero, List.getElem_cons_succ, List.setIfInBounds_toArray, List.set_cons_zero, List.set_cons_succ]
  refine pt_q (v := ?_) rfl (by rfl) ?_ ?_
  rotate_left
  · intro w' hBw'
    have qL := hBw'.cell k2 (by omega)
    first | (go_simp; done) | (go_simp; with_reducible rfl)
  try simp only [Act.put, List.getElem_toArray, List.getElem_cons_zero, List.getElem_cons_succ, List.setIfInBounds_toArray, List.set_cons_zero, List.set_cons_succ]
  refine pt_q (v := ?_) rfl (by rfl) ?_ ?_
  rotate_left
  · intro w' hBw'
    first | (go_simp; done) | (go_simp; with_reducible rfl)
  try simp only [Act.put, List.getElem_toArray, List.getElem_cons_zero, List.getElem_cons_succ, List.setIfInBounds_toArray, List.set_cons_zero, List.set_cons_succ]
  refine pt_c ?_
  refine pt_step rfl (by rfl) (fun K hK => ?_)
  go_simp
  refine (rItem_c n m hn hm h _).mono ?_
  rintro en w1 ⟨hb1, r1, rfl, hi1⟩
  refine hK.out _ _ (But.of_below hb1) ?_
  clear hK K
  try simp only [Act.put, List.getElem_toArray, List.getElem_cons_zero, List.getElem_cons_succ, List.setIfInBounds_toArray, List.set_cons_zero, List.set_cons_succ]
  refine pt_c ?_
  refine pt_step rfl (by rfl) (fun K hK => ?_)
  go_simp
  refine (rUint_c t _).mono ?_
  rintro en w2 ⟨rfl, hb2⟩
  refine hK.out _ _ (But.of_below hb2) ?_
  clear hK K
  try simp only [Act.put, List.getElem_toArray, List.getElem_cons_zero, List.getElem_cons_succ, List.setIfInBounds_toArray, List.set_cons_zero, List.set_cons_succ]
  refine pt_c ?_
  refine pt_step rfl (by rfl) (fun K hK => ?_)
  go_simp
  refine (rUint_c s _).mono ?_
  rintro en w3 ⟨rfl, hb3⟩
  refine hK.out _ _ (But.of_below hb3) ?_
  clear hK K
  try simp only [Act.put, List.getElem_toArray, List.getElem_cons_zero, List.getElem_cons_succ, List.setIfInBounds_toArray, List.set_cons_zero, List.set_cons_succ]
  refine pt_c ?_
  refine pt_buildSlice rfl (by rfl) 46 48 3 #[(0, .tmp 5), (1, .tmp 8), (2, .tmp 12)] rfl ([r1, rU t, rU s].flatMap rwC).toArray iI _ Tryd.underlying46 hiI hzI (by rw [hsI]; decide) (by rw [hsI]; decide) [(0, rwV (r1)), (1, rwV (rU t)), (2, rwV (rU s))] rfl (by rw [hsI]; exact filled3 _ _ _) ?_
  try simp only [Act.put, List.getElem_toArray, List.getElem_cons_zero, List.getElem_cons_succ, List.setIfInBounds_toArray, List.set_cons_zero, List.set_cons_succ]
  have O7 := RowAt.new w3 ([r1, rU t, rU s].flatMap rwC).toArray 48
  have hq7 := below_alloc w3 (.cells ([r1, rU t, rU s].flatMap rwC).toArray 48)
  obtain ⟨W7, hW7⟩ : ∃ x, w3.alloc (.cells ([r1, rU t, rU s].flatMap rwC).toArray 48) = x := ⟨_, rfl⟩
  rw [hW7] at O7 hq7 ⊢
  refine pt_c ?_
  refine pt_step rfl (by rfl) (fun K hK => ?_)
  go_simp
  refine (rList_c _ _ _ _).mono ?_
  rintro en w8 ⟨rfl, hb8⟩
  refine hK.out _ _ (But.of_below hb8) ?_
  clear hK K
  try simp only [Act.put, List.getElem_toArray, List.getElem_cons_zero, List.getElem_cons_succ, List.setIfInBounds_toArray, List.set_cons_zero, List.set_cons_succ]
  have hs3 : w.heap.size + 2 ≤ w3.heap.size := RowAt.lt (RowAt.below Zd (below_up hb1 (below_up hb2 hb3)))
  have h18 := below_up hb1 (below_up hb2 (below_up hb3 (below_up hq7 hb8)))
  have Z8 := Zd.below h18
  have D8 := below_up B0 h18
  have I8 := hi1.up (below_up hb2 (below_up hb3 (below_up hq7 hb8)))
  have O8 := RowAt.below O7 hb8
  refine pt_c ?_
  refine pt_put_row rfl (by rfl) 48 _ _ rfl (w.heap.size + 1) (rwC (rL (.slice (some ⟨w3.heap.size, 0, none⟩) 3 3))) rfl rfl Z8 rfl (by kernel_rfl) rfl rfl ?_
  try simp only [Act.put, List.getElem_toArray, List.getElem_cons_zero, List.getElem_cons_succ, List.setIfInBounds_toArray, List.set_cons_zero, List.set_cons_succ]
  intro w9 R9 hb9
  have D9 := D8.trans (hb9.below (fun k e => by omega) D8.size)
  have hz1 := hb1.size
  have I9 := (I8.but hb9 (fun k hk e => by omega)).mono (S' := fun k => w.heap.size ≤ k ∧ k < w9.heap.size) (fun k hk => ⟨by omega, by have := (below_up hb2 (below_up hb3 (below_up hq7 hb8))).size; have := hb9.size; omega⟩)
  have O9 := (hb9.same _ (RowAt.lt O8) (by omega)).trans O8
  refine pt_done ?_
  go_wp2
  have g0 := RowAt.cell R9 (i := 0) rfl
  have g1 := RowAt.cell R9 (i := 1) rfl
  have g2 := RowAt.cell R9 (i := 2) rfl
  have g3 := RowAt.cell R9 (i := 3) rfl
  have g4 := RowAt.cell R9 (i := 4) rfl
  refine bodyPost_ret (v := rwV (rL (.slice (some ⟨w3.heap.size, 0, none⟩) 3 3))) (by simp [results, Tryd.results24, go_sem, g0, g1, g2, g3, g4]) rfl ?_
  exact ⟨D9, _, rfl, itL (its3 I9 (itU _ _ t ht) (itU _ _ s (by omega))) O9 ⟨by omega, RowAt.lt O9⟩ (by show 3 ≤ 1000; decide)⟩
end Go.Proofs.YtpfgepgjpnekdaaDoor
