/-
  NmRn: several texts in one (bundle.py).
-/
import Derived.Test.YtpfgepgjpnekdaaDoorNmI37
namespace Go.Proofs.YtpfgepgjpnekdaaDoor
open Go.RowKit Trc Cb
set_option linter.unusedSimpArgs false
set_option linter.unusedVariables false
theorem But.reallocN {O : Nat → Prop} (w : World) (o1 o2 : Obj) (h : O w.heap.size) : But O (w.alloc o1) (w.alloc o2) :=
  ⟨rfl, rfl, rfl, by simp, fun i hi hn => by
    rcases Nat.lt_or_ge i w.heap.size with h1 | h1
    · rw [heap_alloc_old _ _ h1, heap_alloc_old _ _ h1]
    · have : i = w.heap.size := by simp at hi; omega
      subst this; exact absurd h hn⟩
theorem chkN_pos {n t : Nat} (h : Dig.chkN n t = 0) : n ≠ 0 := by
  unfold Dig.chkN at h
  split at h
  · cases h
  · rename_i h2; exact fun e => h2 (.inl e)
theorem okN_of {x : It} {n m t s : Nat} (hn : n < 4294967296) (hm : m < 4294967296) (hs : s < 4294967296) (hc : Dig.chkN n t = 0) (hx : sameB x (nmI n m t s) = true) : okN x = true ∧ naN x = n ∧ naM x = m ∧ naT x = t ∧ naS x = s := by
  have := (sameB_iff x _).1 hx
  subst this
  have h := chkN_pos hc
  have h1 : naN (nmI n m t s) = n := by unfold naN; rw [readU_nm n m t s h]; simp [g5]; omega
  have h2 : naM (nmI n m t s) = m := by unfold naM; rw [readU_nm n m t s h]; simp [g5]; omega
  have h3 : naT (nmI n m t s) = t := by unfold naT; rw [readU_nm n m t s h]; simp [g5]
  have h4 : naS (nmI n m t s) = s := by unfold naS; rw [readU_nm n m t s h]; simp [g5]; omega
  refine ⟨?_, h1, h2, h3, h4⟩
  unfold okN
  rw [h1, h2, h3, h4, sameB_refl, hc]; rfl
theorem okN_far {x : It} (hk : okN x = true) : ∃ n m t s : Nat, n < 4294967296 ∧ m < 4294967296 ∧ s < 4294967296 ∧ Dig.chkN n t = 0 ∧ x = nmI n m t s := by
  unfold okN at hk
  rw [Bool.and_eq_true] at hk
  exact ⟨naN x, naM x, naT x, naS x, by unfold naN; omega, by unfold naM; omega, by unfold naS; omega, of_decide_eq_true hk.1, (sameB_iff x _).1 hk.2⟩
theorem shB_three {x : It} {a b c : Int} (h : shB x [a, b, c] = true) : ∃ y0 y1 y2, x.l = [y0, y1, y2] ∧ y0.k = a ∧ y1.k = b ∧ y2.k = c := by
  unfold shB at h
  rw [Bool.and_eq_true] at h
  have h2 := eq_of_beq h.2
  match hx : x.l with
  | [] => rw [hx] at h2; simp at h2
  | [y] => rw [hx] at h2; simp at h2
  | [y0, y1] => rw [hx] at h2; simp at h2
  | [y0, y1, y2] => rw [hx] at h2; simp at h2; exact ⟨y0, y1, y2, rfl, h2.1, h2.2.1, h2.2.2⟩
  | y0 :: y1 :: y2 :: y3 :: r => rw [hx] at h2; simp at h2
theorem okN_sh {x : It} (hk : okN x = true) : shB x [4, 1, 1] = true := by
  obtain ⟨n, m, t, s, _, _, _, hc, rfl⟩ := okN_far hk
  have hk : (epI n m).k = 4 := by unfold epI; split <;> rfl
  unfold shB nmI
  show ((4 : Int) == 4 && ([(epI n m).k, 1, 1] == [4, 1, 1])) = true
  rw [hk]; rfl
/-- The parts of a name's item. -/
theorem okN_at {x y0 y1 y2 : It} (hk : okN x = true) (hl : x.l = [y0, y1, y2]) : ∃ n m t s : Nat, n < 4294967296 ∧ m < 4294967296 ∧ s < 4294967296 ∧ Dig.chkN n t = 0 ∧ x = nmI n m t s ∧ (okE y0 = true ∧ ofA y0 = n ∧ ofB y0 = m) ∧ y1.n = t ∧ y2.n = s := by
  obtain ⟨n, m, t, s, hn, hm, hs, hc, rfl⟩ := okN_far hk
  have h3 : (nmI n m t s).l = [epI n m, uI t, uI s] := rfl
  rw [h3] at hl
  simp only [List.cons.injEq, and_true] at hl
  obtain ⟨rfl, rfl, rfl⟩ := hl
  exact ⟨n, m, t, s, hn, hm, hs, hc, rfl, okE_mk hn hm (by have := chkN_pos hc; unfold Dig.chkP; rw [if_neg (fun e => this e.1)]), rfl, rfl⟩
abbrev rnofV (x : It) : Value := .tuple #[nmW (if okN x then naN x else 0) (if okN x then naM x else 0) (if okN x then naT x else 0) (if okN x then naS x else 0), .bool (okN x)]
set_option maxHeartbeats 1000000 in
set_option maxRecDepth 100000 in
theorem rNameOf_c (x : It) (r : Rw) (w : World) (hx : ItR (fun k => k < w.heap.size) w x r) (hcx : Cb.cnt x ≤ 1000000) : Calls Tryd.prog 33 #[rwV r] w (Ret (rnofV x) w) := by
  obtain ⟨k1, n1, ba1, bn1, bc1, s1, la1, ln1, lc1, rfl⟩ := hx.shape
  have hb0 : Below w.heap.size w ((w.alloc (.cells (rwC ⟨k1, n1, .slice ba1 bn1 bc1, s1, .slice la1 ln1 lc1⟩).toArray 48)).alloc (.cells #[.int .u32 0, .int .u32 0, .int .u64 0, .int .u32 0] 31)) := (below_alloc w _).alloc (by simp) _
  have X0 : RowAt ((w.alloc (.cells (rwC ⟨k1, n1, .slice ba1 bn1 bc1, s1, .slice la1 ln1 lc1⟩).toArray 48)).alloc (.cells #[.int .u32 0, .int .u32 0, .int .u64 0, .int .u32 0] 31)) w.heap.size (rwC ⟨k1, n1, .slice ba1 bn1 bc1, s1, .slice la1 ln1 lc1⟩).toArray 48 := (RowAt.new w _ _).below (below_alloc _ _)
  have Z0 : RowAt ((w.alloc (.cells (rwC ⟨k1, n1, .slice ba1 bn1 bc1, s1, .slice la1 ln1 lc1⟩).toArray 48)).alloc (.cells #[.int .u32 0, .int .u32 0, .int .u64 0, .int .u32 0] 31)) (w.heap.size + 1) #[.int .u32 0, .int .u32 0, .int .u64 0, .int .u32 0] 31 := by
    have := RowAt.new (w.alloc (.cells (rwC ⟨k1, n1, .slice ba1 bn1 bc1, s1, .slice la1 ln1 lc1⟩).toArray 48)) #[.int .u32 0, .int .u32 0, .int .u64 0, .int .u32 0] 31
    rwa [World.size_alloc] at this
  have hq := below_alloc ((w.alloc (.cells (rwC ⟨k1, n1, .slice ba1 bn1 bc1, s1, .slice la1 ln1 lc1⟩).toArray 48)).alloc (.cells #[.int .u32 0, .int .u32 0, .int .u64 0, .int .u32 0] 31)) (.cells #[.int .i64 4, .int .i64 1, .int .i64 1] 3)
  have hu : Sl (((w.alloc (.cells (rwC ⟨k1, n1, .slice ba1 bn1 bc1, s1, .slice la1 ln1 lc1⟩).toArray 48)).alloc (.cells #[.int .u32 0, .int .u32 0, .int .u64 0, .int .u32 0] 31)).alloc (.cells #[.int .i64 4, .int .i64 1, .int .i64 1] 3)) 1 (.slice (some ⟨((w.alloc (.cells (rwC ⟨k1, n1, .slice ba1 bn1 bc1, s1, .slice la1 ln1 lc1⟩).toArray 48)).alloc (.cells #[.int .u32 0, .int .u32 0, .int .u64 0, .int .u32 0] 31)).heap.size, 0, none⟩) 3 3) 3 (([4, 1, 1] : List Int).map (.int .i64)) := Sl.of_own (World.ownsRow_lit ((w.alloc (.cells (rwC ⟨k1, n1, .slice ba1 bn1 bc1, s1, .slice la1 ln1 lc1⟩).toArray 48)).alloc (.cells #[.int .u32 0, .int .u32 0, .int .u64 0, .int .u32 0] 31)) #[.int .i64 4, .int .i64 1, .int .i64 1] 3 (size := 1) (e := 3) (Nat.le_refl _) (by decide) rfl)
  have hsz : ((w.alloc (.cells (rwC ⟨k1, n1, .slice ba1 bn1 bc1, s1, .slice la1 ln1 lc1⟩).toArray 48)).alloc (.cells #[.int .u32 0, .int .u32 0, .int .u64 0, .int .u32 0] 31)).heap.size = w.heap.size + 1 + 1 := by simp only [World.size_alloc]
  rw [hsz] at hu
  clear hsz
  have hsh := shapeR_c (fun k => k < w.heap.size) x [4, 1, 1] ⟨k1, n1, .slice ba1 bn1 bc1, s1, .slice la1 ln1 lc1⟩ _ 3 _ ((hx.up hb0).up hq) hu hcx
  have HSW := Lib.hid hsh
  have HX := Lib.hid hx
  have HB0 := Lib.hid hb0
  have HX0 := Lib.hid X0
  have HZ0 := Lib.hid Z0
  have HCX := Lib.hid hcx
  obtain ⟨R, hR⟩ : ∃ R, R = rnofV x := ⟨_, rfl⟩
  rw [← hR]
  have HNO := Lib.hid (fun h : okN x = false => show R = .tuple #[nmW 0 0 0 0, .bool false] by rw [hR]; unfold rnofV; rw [h]; rfl)
  have HYES := Lib.hid (fun (n m t s : Nat) (h : okN x = true ∧ naN x = n ∧ naM x = m ∧ naT x = t ∧ naS x = s) => show R = .tuple #[nmW n m t s, .bool true] by
    rw [hR]; unfold rnofV; rw [h.1, h.2.1, h.2.2.1, h.2.2.2.1, h.2.2.2.2]; rfl)
  clear hR hx hb0 X0 Z0 hu hsh hcx
  have x0 := HX0.out.cell (i := 0) rfl
  have x1 := HX0.out.cell (i := 1) rfl
  have x2 := HX0.out.cell (i := 2) rfl
  have x3 := HX0.out.cell (i := 3) rfl
  have x4 := HX0.out.cell (i := 4) rfl
  go_enter Tryd.func33, Tryd.ntmps33
  go_wp2_with fail
  refine HSW.out.mono ?_
  rintro en v5 ⟨rfl, hb5⟩
  have D5 := below_up HB0.out (below_up hq hb5)
  have X5 := (HX0.out.below hq).below hb5
  have Z5 := (HZ0.out.below hq).below hb5
  have HSZ := Lib.hid (show w.heap.size + 3 ≤ v5.heap.size by have h1 := hb5.size; simp at h1; omega)
  clear x0 x1 x2 x3 x4 hb5 hq HSW HX0 HZ0 HB0
  cases h1 : shB x [4, 1, 1]
  · have hno : okN x = false := by
      rw [Bool.eq_false_iff]
      intro hk
      rw [okN_sh hk] at h1
      cases h1
    have HRF := Lib.hid (HNO.out hno)
    clear hno h1
    have z0 := Z5.cell (i := 0) rfl
    have z1 := Z5.cell (i := 1) rfl
    have z2 := Z5.cell (i := 2) rfl
    have z3 := Z5.cell (i := 3) rfl
    have f0 := Z5.fz 0
    have f1 := Z5.fz 1
    have f2 := Z5.fz 2
    have f3 := Z5.fz 3
    go_wp2
    have hZ := (((Z5.set 0 (.int .u32 0)).set 1 (.int .u32 0)).set 2 (.int .u64 0)).set 3 (.int .u32 0)
    have g0 := RowAt.cell hZ (i := 0) (v := .int .u32 0) rfl
    have g1 := RowAt.cell hZ (i := 1) (v := .int .u32 0) rfl
    have g2 := RowAt.cell hZ (i := 2) (v := .int .u64 0) rfl
    have g3 := RowAt.cell hZ (i := 3) (v := .int .u32 0) rfl
    refine bodyPost_ret (v := .tuple #[nmW 0 0 0 0, .bool false]) (by simp [results, Tryd.results33, go_sem, g0, g1, g2, g3]) rfl ?_
    exact ⟨by rw [HRF.out], But.below (O := fun k => w.heap.size ≤ k) ((But.of_below D5).trans (((But.setCell _ _ _ (by simp)).trans (But.setCell _ _ _ (by simp))).trans ((But.setCell _ _ _ (by simp)).trans (But.setCell _ _ _ (by simp))))) (fun k e => e) (Nat.le_refl _)⟩
  · obtain ⟨y0, y1, y2, hl, hk0, hk1, hk2⟩ := shB_three h1
    obtain ⟨rows, p⟩ := (HX.out.up D5).parts
    have he := p.each
    rw [hl] at he
    simp only [ItsR] at he
    obtain ⟨r0, rs0, rfl, e0, r1, rs1, rfl, e1, r2, rs2, rfl, e2, rfl⟩ := he
    obtain ⟨k2, n2, ba2, bn2, bc2, s2, la2, ln2, lc2, rfl⟩ := e0.shape
    obtain ⟨k3, n3, ba3, bn3, bc3, s3, la3, ln3, lc3, rfl⟩ := e1.shape
    obtain ⟨k4, n4, ba4, bn4, bc4, s4, la4, ln4, lc4, rfl⟩ := e2.shape
    obtain rfl : ln1 = 3 := by obtain ⟨a, c, h⟩ := p.l.1.len; simp [hl] at h; omega
    have hl5 : Sl v5 5 (.slice la1 3 lc1) 3 ([⟨k2, n2, .slice ba2 bn2 bc2, s2, .slice la2 ln2 lc2⟩, ⟨k3, n3, .slice ba3 bn3 bc3, s3, .slice la3 ln3 lc3⟩, ⟨k4, n4, .slice ba4 bn4 bc4, s4, .slice la4 ln4 lc4⟩].flatMap rwC) := by have := p.l.1; rw [hl] at this; exact this
    obtain ⟨b, off, rfl, hr0⟩ := hl5.rec_at (cells := rwC) (sz := 5) (fun _ => rfl) (k := 0) (by decide) (by simp)
    obtain ⟨b1, off1, hbb, hr1⟩ := hl5.rec_at (cells := rwC) (sz := 5) (fun _ => rfl) (k := 1) (by decide) (by simp)
    cases hbb
    obtain ⟨b2, off2, hbb, hr2⟩ := hl5.rec_at (cells := rwC) (sz := 5) (fun _ => rfl) (k := 2) (by decide) (by simp)
    cases hbb
    simp only [List.getElem_cons_succ, List.getElem_cons_zero] at hr0 hr1 hr2
    have c0 := hr0 0 _ rfl
    have c1 := hr0 1 _ rfl
    have c2 := hr0 2 _ rfl
    have c3 := hr0 3 _ rfl
    have c4 := hr0 4 _ rfl
    have d1 := hr1 1 _ rfl
    have d2 := hr2 1 _ rfl
    simp only [Nat.reduceMul, Nat.add_assoc, Nat.reduceAdd, Nat.zero_mul, Nat.add_zero, Nat.zero_add] at c0 c1 c2 c3 c4 d1 d2
    obtain ⟨p1, q1⟩ := e1.parts
    obtain ⟨p2, q2⟩ := e2.parts
    have hn3 := q1.n; have hn3l := q1.lo; have hn3h := q1.hi
    have hn4 := q2.n; have hn4l := q2.lo; have hn4h := q2.hi
    simp only at hn3 hn4
    rw [← hn3] at hn3l hn3h
    rw [← hn4] at hn4l hn4h
    obtain ⟨t, rfl⟩ : ∃ t : Nat, n3 = t := ⟨n3.toNat, by omega⟩
    obtain ⟨s9, rfl⟩ : ∃ s : Nat, n4 = s := ⟨n4.toNat, by omega⟩
    have HN := Lib.hid (show t ≤ 18446744073709551615 ∧ s9 ≤ 18446744073709551615 by omega)
    have HD1 := Lib.hid d1
    have HD2 := Lib.hid d2
    have hcy : Cb.cnt y0 ≤ 1000000 := by have := Cb.cnt_mem (x := x) (y := y0) (by rw [hl]; simp); have := HCX.out; omega
    have hof := rOf_c y0 ⟨k2, n2, .slice ba2 bn2 bc2, s2, .slice la2 ln2 lc2⟩ v5 (e0.mono (fun k e => by have := HSZ.out; omega)) hcy
    have HQ := Lib.hid (fun h : okN x = true => show ∃ n m s : Nat, n < 4294967296 ∧ m < 4294967296 ∧ s9 = s ∧ s < 4294967296 ∧ Dig.chkN n t = 0 ∧ x = nmI n m t s ∧ okE y0 = true ∧ ofA y0 = n ∧ ofB y0 = m by
      obtain ⟨n, m, t', s, e1, e2, e3, e4, e5, e6, e7, e8⟩ := okN_at h hl
      rw [← hn3] at e7
      rw [← hn4] at e8
      obtain rfl : t = t' := by omega
      exact ⟨n, m, s, e1, e2, by omega, e3, e4, e5, e6⟩)
    have HXI := Lib.hid (show ItR (fun k => k < w.heap.size) v5 x ⟨k1, n1, .slice ba1 bn1 bc1, s1, .slice (some ⟨b, off, none⟩) 3 lc1⟩ from p.it)
    have ha0 := ofA_lt y0
    have hb0 := ofB_lt y0
    have HEI := Lib.hid (fun h : okE y0 = true => (okE_item h).2)
    obtain ⟨ok, hok⟩ : ∃ ok, ok = okE y0 := ⟨_, rfl⟩
    have hof2 : Calls Tryd.prog 32 #[rwV ⟨k2, n2, .slice ba2 bn2 bc2, s2, .slice la2 ln2 lc2⟩] v5 (Ret (.tuple #[epV (if ok then ofA y0 else 0) (if ok then ofB y0 else 0), .bool ok]) v5) := by rw [hok]; exact hof
    have HOK := Lib.hid hok
    clear hof hl hk0 hk1 hk2 p e0 e1 e2 hl5 hr0 hr1 hr2 q1 q2 hn3 hn4 hn3l hn3h hn4l hn4h d1 d2 p1 p2 hcy h1 hok HX
    generalize ofA y0 = A at *
    generalize ofB y0 = B at *
    have HAB := Lib.hid (show A < 4294967296 ∧ B < 4294967296 from ⟨ha0, hb0⟩)
    clear ha0 hb0
    obtain ⟨A', hA⟩ : ∃ A', A' = (if ok then A else 0) := ⟨_, rfl⟩
    obtain ⟨B', hB⟩ : ∃ B', B' = (if ok then B else 0) := ⟨_, rfl⟩
    rw [← hA, ← hB] at hof2
    have HA := Lib.hid hA
    have HB := Lib.hid hB
    have HOF := Lib.hid hof2
    have b4 := X5.cell (i := 4) rfl
    clear hA hB hof2
    go_wp2_with fail
    refine HOF.out.mono ?_
    rintro en v6 ⟨rfl, hb6⟩
    have D6 := below_up hb6 (below_alloc v6 (.cells #[.int .u32 A', .int .u32 B'] 25))
    have D6' := Lib.hid (below_up D5 D6)
    have X6 := X5.below D6
    have Z6 := Z5.below D6
    have E6 := RowAt.new v6 #[.int .u32 A', .int .u32 B'] 25
    have HX6 := Lib.hid (HXI.out.up D6)
    have HS6 := Lib.hid D6.size
    clear c0 c1 c2 c3 c4 b4 HOF
    have b4 := X6.cell (i := 4) (v := .slice (some ⟨b, off, none⟩) 3 lc1) rfl
    have e0 := E6.cell (i := 0) (v := .int .u32 A') rfl
    have e1 := E6.cell (i := 1) (v := .int .u32 B') rfl
    have d1 := cell_up D6 HD1.out
    have d2 := cell_up D6 HD2.out
    have HLT := Lib.hid (show w.heap.size < v6.heap.size + 1 ∧ b < v6.heap.size + 1 by
      have h1 := HSZ.out; have h2 := hb6.size; have h3 := World.block_lt_of_cell? v5 ⟨b, off + 6, none⟩ HD1.out; simp only at h3; omega)
    clear hb6 D6 D5 E6 X5 Z5
    have hwr : IntKind.u32.wrap ((s9 : Int) % 4294967296) = (s9 : Int) % 4294967296 := by rw [IntKind.wrap_u32]; omega
    go_wp2
    refine wp_region_pt (fun k => v6.heap.size + 1 ≤ k) (.q 0 (.q 1 (.q 2 (.q 3 (.q 4 (.q 5 (.q 6 (.q 7 (.q 8 (.q 9 (.q 10 (.q 11 (.q 12 (.q 13 (.c 14 (.c 15 .done)))))))))))))))) (by kernel_rfl) (by kernel_rfl) (by kernel_rfl) (by decide) (fun _ _ d _ _ h => by cases d <;> exact h) (fun Wd hBd => ?_)
    try simp only [Act.put, List.getElem_toArray, List.getElem_cons_zero, List.getElem_cons_succ, List.setIfInBounds_toArray, List.set_cons_zero, List.set_cons_succ]
    replace e0 := cell_up hBd e0
    replace e1 := cell_up hBd e1
    replace b4 := cell_up hBd b4
    replace d1 := cell_up hBd d1
    replace d2 := cell_up hBd d2
    refine pt_q (v := ?_) rfl (by rfl) ?_ ?_
    rotate_left
    · intro w' hBw'
      have qL0 := hBw'.cell e0 (by omega)
      have qL1 := hBw'.cell e1 (by omega)
      first | (go_simp; done) | (go_simp; with_reducible rfl)
    try simp only [Act.put, List.getElem_toArray, List.getElem_cons_zero, List.getElem_cons_succ, List.setIfInBounds_toArray, List.set_cons_zero, List.set_cons_succ]
    refine pt_q (v := ?_) rfl (by rfl) ?_ ?_
    rotate_left
    · intro w' hBw'
      first | (go_simp; done) | (go_simp; with_reducible rfl)
    try simp only [Act.put, List.getElem_toArray, List.getElem_cons_zero, List.getElem_cons_succ, List.setIfInBounds_toArray, List.set_cons_zero, List.set_cons_succ]
    refine pt_q (v := ?_) rfl (by rfl) ?_ ?_
    rotate_left
    · intro w' hBw'
      have qL := hBw'.cell b4 (by have := HLT.out; omega)
      first | (go_simp; done) | (go_simp; with_reducible rfl)
    try simp only [Act.put, List.getElem_toArray, List.getElem_cons_zero, List.getElem_cons_succ, List.setIfInBounds_toArray, List.set_cons_zero, List.set_cons_succ]
    refine pt_q (v := ?_) rfl (by rfl) ?_ ?_
    rotate_left
    · intro w' hBw'
      first | (go_simp; done) | (go_simp; with_reducible rfl)
    try simp only [Act.put, List.getElem_toArray, List.getElem_cons_zero, List.getElem_cons_succ, List.setIfInBounds_toArray, List.set_cons_zero, List.set_cons_succ]
    refine pt_q (v := ?_) rfl (by rfl) ?_ ?_
    rotate_left
    · intro w' hBw'
      first | (go_simp; done) | (go_simp; with_reducible rfl)
    try simp only [Act.put, List.getElem_toArray, List.getElem_cons_zero, List.getElem_cons_succ, List.setIfInBounds_toArray, List.set_cons_zero, List.set_cons_succ]
    refine pt_q (v := ?_) rfl (by rfl) ?_ ?_
    rotate_left
    · intro w' hBw'
      have qL := hBw'.cell d1 (by have := HLT.out; omega)
      first | (go_simp; done) | (go_simp; with_reducible rfl)
    try simp only [Act.put, List.getElem_toArray, List.getElem_cons_zero, List.getElem_cons_succ, List.setIfInBounds_toArray, List.set_cons_zero, List.set_cons_succ]
    refine pt_q (v := ?_) rfl (by rfl) ?_ ?_
    rotate_left
    · intro w' hBw'
      first | (go_simp; done) | (go_simp; with_reducible rfl)
    try simp only [Act.put, List.getElem_toArray, List.getElem_cons_zero, List.getElem_cons_succ, List.setIfInBounds_toArray, List.set_cons_zero, List.set_cons_succ]
    refine pt_q (v := ?_) rfl (by rfl) ?_ ?_
    rotate_left
    · intro w' hBw'
      have qL := hBw'.cell b4 (by have := HLT.out; omega)
      first | (go_simp; done) | (go_simp; with_reducible rfl)
    try simp only [Act.put, List.getElem_toArray, List.getElem_cons_zero, List.getElem_cons_succ, List.setIfInBounds_toArray, List.set_cons_zero, List.set_cons_succ]
    refine pt_q (v := ?_) rfl (by rfl) ?_ ?_
    rotate_left
    · intro w' hBw'
      first | (go_simp; done) | (go_simp; with_reducible rfl)
    try simp only [Act.put, List.getElem_toArray, List.getElem_cons_zero, List.getElem_cons_succ, List.setIfInBounds_toArray, List.set_cons_zero, List.set_cons_succ]
    refine pt_q (v := ?_) rfl (by rfl) ?_ ?_
    rotate_left
    · intro w' hBw'
      first | (go_simp; done) | (go_simp; with_reducible rfl)
    try simp only [Act.put, List.getElem_toArray, List.getElem_cons_zero, List.getElem_cons_succ, List.setIfInBounds_toArray, List.set_cons_zero, List.set_cons_succ]
    refine pt_q (v := ?_) rfl (by rfl) ?_ ?_
    rotate_left
    · intro w' hBw'
      have qL := hBw'.cell d2 (by have := HLT.out; omega)
      first | (go_simp; done) | (go_simp; with_reducible rfl)
    try simp only [Act.put, List.getElem_toArray, List.getElem_cons_zero, List.getElem_cons_succ, List.setIfInBounds_toArray, List.set_cons_zero, List.set_cons_succ]
    refine pt_q (v := ?_) rfl (by rfl) ?_ ?_
    rotate_left
    · intro w' hBw'
      first | (go_simp; done) | (go_simp; with_reducible rfl)
    try simp only [Act.put, List.getElem_toArray, List.getElem_cons_zero, List.getElem_cons_succ, List.setIfInBounds_toArray, List.set_cons_zero, List.set_cons_succ]
    refine pt_q (v := ?_) rfl (by rfl) ?_ ?_
    rotate_left
    · intro w' hBw'
      first | (go_simp; done) | (go_simp; with_reducible rfl)
    try simp only [Act.put, List.getElem_toArray, List.getElem_cons_zero, List.getElem_cons_succ, List.setIfInBounds_toArray, List.set_cons_zero, List.set_cons_succ]
    refine pt_q (v := ?_) rfl (by rfl) ?_ ?_
    rotate_left
    · intro w' hBw'
      first | (go_simp; done) | (go_simp; with_reducible rfl)
    try simp only [Act.put, List.getElem_toArray, List.getElem_cons_zero, List.getElem_cons_succ, List.setIfInBounds_toArray, List.set_cons_zero, List.set_cons_succ]
    refine pt_c ?_
    refine pt_step rfl (by rfl) (fun K hK => ?_)
    go_simp
    refine hK.out _ _ (But.alloc _ _) ?_
    clear hK K
    try simp only [Act.put, List.getElem_toArray, List.getElem_cons_zero, List.getElem_cons_succ, List.setIfInBounds_toArray, List.set_cons_zero, List.set_cons_succ]
    refine pt_c ?_
    refine pt_step rfl (by rfl) (fun K hK => ?_)
    go_simp
    refine hK.out _ _ (But.reallocN _ _ _ (by have := hBd.size; simp at this; omega)) ?_
    clear hK K
    try simp only [Act.put, List.getElem_toArray, List.getElem_cons_zero, List.getElem_cons_succ, List.setIfInBounds_toArray, List.set_cons_zero, List.set_cons_succ]
    refine pt_done ?_
    obtain ⟨s, hs, hs2⟩ : ∃ s : Nat, IntKind.u32.wrap ((s9 : Int).tmod 4294967296) = s ∧ s = s9 % 4294967296 := ⟨s9 % 4294967296, by rw [Int.tmod_eq_emod_of_nonneg (by omega), IntKind.wrap_u32]; omega, rfl⟩
    rw [hs]
    have HS := Lib.hid hs2
    have D7 := below_alloc Wd (.cells #[.int .u32 A', .int .u32 B', .int .u64 t, .int .u32 s] 31)
    have D9 := below_up (below_up D6'.out hBd) D7
    have hx9 := (HX6.out.up hBd).up D7
    have X9 := (X6.below hBd).below D7
    have Z9 := (Z6.below hBd).below D7
    have N9 := RowAt.new Wd #[.int .u32 A', .int .u32 B', .int .u64 t, .int .u32 s] 31
    have HSW := Lib.hid (show w.heap.size + 3 ≤ Wd.heap.size by have h1 := hBd.size; have h2 := HSZ.out; have h3 := HS6.out; omega)
    clear D7 hs hs2 hBd X6 Z6 e0 e1 b4 d1 d2 hwr HX6 HXI HLT HS6 D6' HD1 HD2
    obtain ⟨v9, hv9⟩ : ∃ v9, v9 = Wd.alloc (.cells #[.int .u32 A', .int .u32 B', .int .u64 t, .int .u32 s] 31) := ⟨_, rfl⟩
    rw [← hv9] at D9 hx9 X9 Z9 N9
    rw [← hv9]
    have HV9 := Lib.hid hv9
    have HX9 := Lib.hid hx9
    have HD9 := Lib.hid D9
    have HSV := Lib.hid (show w.heap.size + 3 ≤ v9.heap.size by rw [hv9]; have := HSW.out; simp; omega)
    clear hv9 hx9 D9
    cases ok
    · have hno : okN x = false := by
        rw [Bool.eq_false_iff]
        intro hk
        obtain ⟨_, _, _, _, _, _, _, _, _, h, _⟩ := HQ.out hk
        rw [← HOK.out] at h
        cases h
      have HRF := Lib.hid (HNO.out hno)
      clear hno
      go_wp2
      refine wp_region_pt (fun _ => False) (.q 0 (.q 1 (.q 2 (.q 3 (.q 4 (.q 5 (.q 6 (.q 7 (.q 8 (.q 9 (.q 10 (.q 11 (.q 12 (.q 13 .done)))))))))))))) (by kernel_rfl) (by kernel_rfl) (by kernel_rfl) (by decide) (fun _ _ d _ _ h => by cases d <;> exact h) (fun Wd hBd => ?_)
      try simp only [Act.put, List.getElem_toArray, List.getElem_cons_zero, List.getElem_cons_succ, List.setIfInBounds_toArray, List.set_cons_zero, List.set_cons_succ]
      refine pt_q (v := ?_) rfl (by rfl) ?_ ?_
      rotate_left
      · intro w' hBw'
        first | (go_simp; done) | (go_simp; with_reducible rfl)
      try simp only [Act.put, List.getElem_toArray, List.getElem_cons_zero, List.getElem_cons_succ, List.setIfInBounds_toArray, List.set_cons_zero, List.set_cons_succ]
      refine pt_q (v := ?_) rfl (by rfl) ?_ ?_
      rotate_left
      · intro w' hBw'
        first | (go_simp; done) | (go_simp; with_reducible rfl)
      try simp only [Act.put, List.getElem_toArray, List.getElem_cons_zero, List.getElem_cons_succ, List.setIfInBounds_toArray, List.set_cons_zero, List.set_cons_succ]
      refine pt_q (v := ?_) rfl (by rfl) ?_ ?_
      rotate_left
      · intro w' hBw'
        first | (go_simp; done) | (go_simp; with_reducible rfl)
      try simp only [Act.put, List.getElem_toArray, List.getElem_cons_zero, List.getElem_cons_succ, List.setIfInBounds_toArray, List.set_cons_zero, List.set_cons_succ]
      refine pt_no rfl (by rfl) ?_
      try simp only [Act.put, List.getElem_toArray, List.getElem_cons_zero, List.getElem_cons_succ, List.setIfInBounds_toArray, List.set_cons_zero, List.set_cons_succ]
      refine pt_no rfl (by rfl) ?_
      try simp only [Act.put, List.getElem_toArray, List.getElem_cons_zero, List.getElem_cons_succ, List.setIfInBounds_toArray, List.set_cons_zero, List.set_cons_succ]
      refine pt_no rfl (by rfl) ?_
      try simp only [Act.put, List.getElem_toArray, List.getElem_cons_zero, List.getElem_cons_succ, List.setIfInBounds_toArray, List.set_cons_zero, List.set_cons_succ]
      refine pt_q (v := ?_) rfl (by rfl) ?_ ?_
      rotate_left
      · intro w' hBw'
        first | (go_simp; done) | (go_simp; with_reducible rfl)
      try simp only [Act.put, List.getElem_toArray, List.getElem_cons_zero, List.getElem_cons_succ, List.setIfInBounds_toArray, List.set_cons_zero, List.set_cons_succ]
      refine pt_q (v := ?_) rfl (by rfl) ?_ ?_
      rotate_left
      · intro w' hBw'
        first | (go_simp; done) | (go_simp; with_reducible rfl)
      try simp only [Act.put, List.getElem_toArray, List.getElem_cons_zero, List.getElem_cons_succ, List.setIfInBounds_toArray, List.set_cons_zero, List.set_cons_succ]
      refine pt_no rfl (by rfl) ?_
      try simp only [Act.put, List.getElem_toArray, List.getElem_cons_zero, List.getElem_cons_succ, List.setIfInBounds_toArray, List.set_cons_zero, List.set_cons_succ]
      refine pt_no rfl (by rfl) ?_
      try simp only [Act.put, List.getElem_toArray, List.getElem_cons_zero, List.getElem_cons_succ, List.setIfInBounds_toArray, List.set_cons_zero, List.set_cons_succ]
      refine pt_no rfl (by rfl) ?_
      try simp only [Act.put, List.getElem_toArray, List.getElem_cons_zero, List.getElem_cons_succ, List.setIfInBounds_toArray, List.set_cons_zero, List.set_cons_succ]
      refine pt_no rfl (by rfl) ?_
      try simp only [Act.put, List.getElem_toArray, List.getElem_cons_zero, List.getElem_cons_succ, List.setIfInBounds_toArray, List.set_cons_zero, List.set_cons_succ]
      refine pt_no rfl (by rfl) ?_
      try simp only [Act.put, List.getElem_toArray, List.getElem_cons_zero, List.getElem_cons_succ, List.setIfInBounds_toArray, List.set_cons_zero, List.set_cons_succ]
      refine pt_q (v := ?_) rfl (by rfl) ?_ ?_
      rotate_left
      · intro w' hBw'
        first | (go_simp; done) | (go_simp; with_reducible rfl)
      try simp only [Act.put, List.getElem_toArray, List.getElem_cons_zero, List.getElem_cons_succ, List.setIfInBounds_toArray, List.set_cons_zero, List.set_cons_succ]
      refine pt_done ?_
      have D10 := below_up HD9.out hBd
      have Z10 := Z9.below hBd
      clear hBd
      have z0 := Z10.cell (i := 0) rfl
      have z1 := Z10.cell (i := 1) rfl
      have z2 := Z10.cell (i := 2) rfl
      have z3 := Z10.cell (i := 3) rfl
      have f0 := Z10.fz 0
      have f1 := Z10.fz 1
      have f2 := Z10.fz 2
      have f3 := Z10.fz 3
      go_wp2
      have hZ := (((Z10.set 0 (.int .u32 0)).set 1 (.int .u32 0)).set 2 (.int .u64 0)).set 3 (.int .u32 0)
      have g0 := RowAt.cell hZ (i := 0) (v := .int .u32 0) rfl
      have g1 := RowAt.cell hZ (i := 1) (v := .int .u32 0) rfl
      have g2 := RowAt.cell hZ (i := 2) (v := .int .u64 0) rfl
      have g3 := RowAt.cell hZ (i := 3) (v := .int .u32 0) rfl
      refine bodyPost_ret (v := .tuple #[nmW 0 0 0 0, .bool false]) (by simp [results, Tryd.results33, go_sem, g0, g1, g2, g3]) rfl ?_
      exact ⟨by rw [HRF.out], But.below (O := fun k => w.heap.size ≤ k) ((But.of_below D10).trans (((But.setCell _ _ _ (by simp)).trans (But.setCell _ _ _ (by simp))).trans ((But.setCell _ _ _ (by simp)).trans (But.setCell _ _ _ (by simp))))) (fun k e => e) (Nat.le_refl _)⟩
    · have hA1 : A = A' := by have := HA.out; simpa using this.symm
      have hB1 : B = B' := by have := HB.out; simpa using this.symm
      subst hA1 hB1
      have hok1 : okE y0 = true := HOK.out.symm
      have HRC := Lib.hid (fun (W : World) => rRightName_c A B t s W)
      by_cases hc : Dig.chkN A t = 0
      · rw [decide_eq_true hc] at HRC
        have hpb : A = 0 → B = 0 := fun h => absurd h (chkN_pos hc)
        have HNI := Lib.hid (fun (W : World) => rNameItem_c A B t s HAB.out.1 HAB.out.2 (by have := HN.out; omega) (by have := HS.out; omega) hpb W)
        have HC := Lib.hid hc
        clear hc hpb
        go_wp2
        refine wp_region_pt (fun _ => False) (.q 0 (.q 1 (.q 2 (.q 3 (.c 4 (.q 5 (.q 6 (.q 7 (.q 8 (.q 9 (.c 10 (.c 11 (.q 12 (.q 13 .done)))))))))))))) (by kernel_rfl) (by kernel_rfl) (by kernel_rfl) (by decide) (fun _ _ d _ _ h => by cases d <;> exact h) (fun Wd hBd => ?_)
        try simp only [Act.put, List.getElem_toArray, List.getElem_cons_zero, List.getElem_cons_succ, List.setIfInBounds_toArray, List.set_cons_zero, List.set_cons_succ]
        have HDW := Lib.hid (below_up HD9.out hBd)
        have HXW := Lib.hid (HX9.out.up hBd)
        have N10 := N9.below hBd
        have n0 := N10.cell (i := 0) rfl
        have n1 := N10.cell (i := 1) rfl
        have n2 := N10.cell (i := 2) rfl
        have n3 := N10.cell (i := 3) rfl
        refine pt_q (v := ?_) rfl (by rfl) ?_ ?_
        rotate_left
        · intro w' hBw'
          first | (go_simp; done) | (go_simp; with_reducible rfl)
        try simp only [Act.put, List.getElem_toArray, List.getElem_cons_zero, List.getElem_cons_succ, List.setIfInBounds_toArray, List.set_cons_zero, List.set_cons_succ]
        refine pt_q (v := ?_) rfl (by rfl) ?_ ?_
        rotate_left
        · intro w' hBw'
          first | (go_simp; done) | (go_simp; with_reducible rfl)
        try simp only [Act.put, List.getElem_toArray, List.getElem_cons_zero, List.getElem_cons_succ, List.setIfInBounds_toArray, List.set_cons_zero, List.set_cons_succ]
        refine pt_q (v := ?_) rfl (by rfl) ?_ ?_
        rotate_left
        · intro w' hBw'
          first | (go_simp; done) | (go_simp; with_reducible rfl)
        try simp only [Act.put, List.getElem_toArray, List.getElem_cons_zero, List.getElem_cons_succ, List.setIfInBounds_toArray, List.set_cons_zero, List.set_cons_succ]
        refine pt_q (v := ?_) rfl (by rfl) ?_ ?_
        rotate_left
        · intro w' hBw'
          have qL0 := hBw'.cell n0 (fun e => e)
          have qL1 := hBw'.cell n1 (fun e => e)
          have qL2 := hBw'.cell n2 (fun e => e)
          have qL3 := hBw'.cell n3 (fun e => e)
          first | (go_simp; done) | (go_simp; with_reducible rfl)
        try simp only [Act.put, List.getElem_toArray, List.getElem_cons_zero, List.getElem_cons_succ, List.setIfInBounds_toArray, List.set_cons_zero, List.set_cons_succ]
        refine pt_c ?_
        refine pt_step rfl (by rfl) (fun K hK => ?_)
        go_simp
        refine (HRC.out _).mono ?_
        rintro en v10 ⟨rfl, hb10⟩
        refine hK.out _ _ (But.of_below hb10) ?_
        clear hK K
        try simp only [Act.put, List.getElem_toArray, List.getElem_cons_zero, List.getElem_cons_succ, List.setIfInBounds_toArray, List.set_cons_zero, List.set_cons_succ]
        refine pt_q (v := ?_) rfl (by rfl) ?_ ?_
        rotate_left
        · intro w' hBw'
          first | (go_simp; done) | (go_simp; with_reducible rfl)
        try simp only [Act.put, List.getElem_toArray, List.getElem_cons_zero, List.getElem_cons_succ, List.setIfInBounds_toArray, List.set_cons_zero, List.set_cons_succ]
        refine pt_q (v := ?_) rfl (by rfl) ?_ ?_
        rotate_left
        · intro w' hBw'
          first | (go_simp; done) | (go_simp; with_reducible rfl)
        try simp only [Act.put, List.getElem_toArray, List.getElem_cons_zero, List.getElem_cons_succ, List.setIfInBounds_toArray, List.set_cons_zero, List.set_cons_succ]
        refine pt_q (v := ?_) rfl (by rfl) ?_ ?_
        rotate_left
        · intro w' hBw'
          first | (go_simp; done) | (go_simp; with_reducible rfl)
        try simp only [Act.put, List.getElem_toArray, List.getElem_cons_zero, List.getElem_cons_succ, List.setIfInBounds_toArray, List.set_cons_zero, List.set_cons_succ]
        clear n0 n1 n2 n3
        have N11 := N10.below hb10
        have n0 := N11.cell (i := 0) rfl
        have n1 := N11.cell (i := 1) rfl
        have n2 := N11.cell (i := 2) rfl
        have n3 := N11.cell (i := 3) rfl
        have X11 := (X9.below hBd).below hb10
        have b0 := X11.cell (i := 0) rfl
        have b1 := X11.cell (i := 1) rfl
        have b2 := X11.cell (i := 2) rfl
        have b3 := X11.cell (i := 3) rfl
        have b4 := X11.cell (i := 4) rfl
        refine pt_q (v := ?_) rfl (by rfl) ?_ ?_
        rotate_left
        · intro w' hBw'
          have qL0 := hBw'.cell b0 (fun e => e)
          have qL1 := hBw'.cell b1 (fun e => e)
          have qL2 := hBw'.cell b2 (fun e => e)
          have qL3 := hBw'.cell b3 (fun e => e)
          have qL4 := hBw'.cell b4 (fun e => e)
          first | (go_simp; done) | (go_simp; with_reducible rfl)
        try simp only [Act.put, List.getElem_toArray, List.getElem_cons_zero, List.getElem_cons_succ, List.setIfInBounds_toArray, List.set_cons_zero, List.set_cons_succ]
        refine pt_q (v := ?_) rfl (by rfl) ?_ ?_
        rotate_left
        · intro w' hBw'
          have qL0 := hBw'.cell n0 (fun e => e)
          have qL1 := hBw'.cell n1 (fun e => e)
          have qL2 := hBw'.cell n2 (fun e => e)
          have qL3 := hBw'.cell n3 (fun e => e)
          first | (go_simp; done) | (go_simp; with_reducible rfl)
        try simp only [Act.put, List.getElem_toArray, List.getElem_cons_zero, List.getElem_cons_succ, List.setIfInBounds_toArray, List.set_cons_zero, List.set_cons_succ]
        refine pt_c ?_
        refine pt_step rfl (by rfl) (fun K hK => ?_)
        go_simp
        refine (HNI.out _).mono ?_
        rintro en v12 ⟨hb12, r9, rfl, hi9⟩
        obtain ⟨k9, n9, ba9, bn9, bc9, s9', la9, ln9, lc9, rfl⟩ := hi9.shape
        refine hK.out _ _ (But.of_below hb12) ?_
        clear hK K
        try simp only [Act.put, List.getElem_toArray, List.getElem_cons_zero, List.getElem_cons_succ, List.setIfInBounds_toArray, List.set_cons_zero, List.set_cons_succ]
        refine pt_c ?_
        refine pt_step rfl (by rfl) (fun K hK => ?_)
        go_simp
        have hz12 := hb12.size
        have hz10 := hb10.size
        have hzd := hBd.size
        have hz0 := HSV.out
        refine (sameR_c (fun k => k < v12.heap.size) x (nmI A B t s) _ _ v12 (((HXW.out.up hb10).up hb12).mono (fun k e => by omega)) (hi9.mono (fun k e => e.2)) HCX.out (cnt_nmI A B t s)).mono ?_
        rintro en v13 ⟨rfl, hb13⟩
        refine hK.out _ _ (But.of_below hb13) ?_
        clear hK K
        try simp only [Act.put, List.getElem_toArray, List.getElem_cons_zero, List.getElem_cons_succ, List.setIfInBounds_toArray, List.set_cons_zero, List.set_cons_succ]
        refine pt_q (v := ?_) rfl (by rfl) ?_ ?_
        rotate_left
        · intro w' hBw'
          first | (go_simp; done) | (go_simp; with_reducible rfl)
        try simp only [Act.put, List.getElem_toArray, List.getElem_cons_zero, List.getElem_cons_succ, List.setIfInBounds_toArray, List.set_cons_zero, List.set_cons_succ]
        refine pt_q (v := ?_) rfl (by rfl) ?_ ?_
        rotate_left
        · intro w' hBw'
          first | (go_simp; done) | (go_simp; with_reducible rfl)
        try simp only [Act.put, List.getElem_toArray, List.getElem_cons_zero, List.getElem_cons_succ, List.setIfInBounds_toArray, List.set_cons_zero, List.set_cons_succ]
        have HDE := Lib.hid (below_up (below_up (below_up HDW.out hb10) hb12) hb13)
        have Z10 := (((Z9.below hBd).below hb10).below hb12).below hb13
        have N13 := (N11.below hb12).below hb13
        clear n0 n1 n2 n3 b0 b1 b2 b3 b4
        have n0 := N13.cell (i := 0) rfl
        have n1 := N13.cell (i := 1) rfl
        have n2 := N13.cell (i := 2) rfl
        have n3 := N13.cell (i := 3) rfl
        have z0 := Z10.cell (i := 0) rfl
        have z1 := Z10.cell (i := 1) rfl
        have z2 := Z10.cell (i := 2) rfl
        have z3 := Z10.cell (i := 3) rfl
        have f0 := Z10.fz 0
        have f1 := Z10.fz 1
        have f2 := Z10.fz 2
        have f3 := Z10.fz 3
        clear hb10 hb12 hb13 hBd hi9
        refine pt_done ?_
        cases hsm : sameB x (nmI A B t s)
        · have hno : okN x = false := by
            rw [Bool.eq_false_iff]
            intro hk
            obtain ⟨n, m, s', e1, e2, e3, e4, e5, e6, e7, e8, e9⟩ := HQ.out hk
            obtain rfl : s = s' := by have := HS.out; omega
            rw [e8, e9, ← e6, sameB_refl] at hsm
            cases hsm
          have HRF := Lib.hid (HNO.out hno)
          clear hno hsm
          go_wp2
          have hZ := (((Z10.set 0 (.int .u32 0)).set 1 (.int .u32 0)).set 2 (.int .u64 0)).set 3 (.int .u32 0)
          have g0 := RowAt.cell hZ (i := 0) (v := .int .u32 0) rfl
          have g1 := RowAt.cell hZ (i := 1) (v := .int .u32 0) rfl
          have g2 := RowAt.cell hZ (i := 2) (v := .int .u64 0) rfl
          have g3 := RowAt.cell hZ (i := 3) (v := .int .u32 0) rfl
          refine bodyPost_ret (v := .tuple #[nmW 0 0 0 0, .bool false]) (by simp [results, Tryd.results33, go_sem, g0, g1, g2, g3]) rfl ?_
          exact ⟨by rw [HRF.out], But.below (O := fun k => w.heap.size ≤ k) ((But.of_below HDE.out).trans (((But.setCell _ _ _ (by simp)).trans (But.setCell _ _ _ (by simp))).trans ((But.setCell _ _ _ (by simp)).trans (But.setCell _ _ _ (by simp))))) (fun k e => e) (Nat.le_refl _)⟩
        · have HRF := Lib.hid (HYES.out A B t s (okN_of HAB.out.1 HAB.out.2 (by have := HS.out; omega) HC.out hsm))
          clear hsm
          go_wp2
          have hZ := (((Z10.set 0 (.int .u32 A)).set 1 (.int .u32 B)).set 2 (.int .u64 t)).set 3 (.int .u32 s)
          have g0 := RowAt.cell hZ (i := 0) (v := .int .u32 A) rfl
          have g1 := RowAt.cell hZ (i := 1) (v := .int .u32 B) rfl
          have g2 := RowAt.cell hZ (i := 2) (v := .int .u64 t) rfl
          have g3 := RowAt.cell hZ (i := 3) (v := .int .u32 s) rfl
          refine bodyPost_ret (v := .tuple #[nmW A B t s, .bool true]) (by simp [results, Tryd.results33, go_sem, g0, g1, g2, g3]) rfl ?_
          exact ⟨by rw [HRF.out], But.below (O := fun k => w.heap.size ≤ k) ((But.of_below HDE.out).trans (((But.setCell _ _ _ (by simp)).trans (But.setCell _ _ _ (by simp))).trans ((But.setCell _ _ _ (by simp)).trans (But.setCell _ _ _ (by simp))))) (fun k e => e) (Nat.le_refl _)⟩
      · have hno : okN x = false := by
          rw [Bool.eq_false_iff]
          intro hk
          obtain ⟨n, m, s', e1, e2, e3, e4, e5, e6, e7, e8, e9⟩ := HQ.out hk
          rw [← e8] at e5
          exact hc e5
        have HRF := Lib.hid (HNO.out hno)
        rw [decide_eq_false hc] at HRC
        clear hno hc
        go_wp2
        refine wp_region_pt (fun _ => False) (.q 0 (.q 1 (.q 2 (.q 3 (.c 4 (.q 5 (.q 6 (.q 7 (.q 8 (.q 9 (.q 10 (.q 11 (.q 12 (.q 13 .done)))))))))))))) (by kernel_rfl) (by kernel_rfl) (by kernel_rfl) (by decide) (fun _ _ d _ _ h => by cases d <;> exact h) (fun Wd hBd => ?_)
        try simp only [Act.put, List.getElem_toArray, List.getElem_cons_zero, List.getElem_cons_succ, List.setIfInBounds_toArray, List.set_cons_zero, List.set_cons_succ]
        have N10 := N9.below hBd
        have n0 := N10.cell (i := 0) rfl
        have n1 := N10.cell (i := 1) rfl
        have n2 := N10.cell (i := 2) rfl
        have n3 := N10.cell (i := 3) rfl
        refine pt_q (v := ?_) rfl (by rfl) ?_ ?_
        rotate_left
        · intro w' hBw'
          first | (go_simp; done) | (go_simp; with_reducible rfl)
        try simp only [Act.put, List.getElem_toArray, List.getElem_cons_zero, List.getElem_cons_succ, List.setIfInBounds_toArray, List.set_cons_zero, List.set_cons_succ]
        refine pt_q (v := ?_) rfl (by rfl) ?_ ?_
        rotate_left
        · intro w' hBw'
          first | (go_simp; done) | (go_simp; with_reducible rfl)
        try simp only [Act.put, List.getElem_toArray, List.getElem_cons_zero, List.getElem_cons_succ, List.setIfInBounds_toArray, List.set_cons_zero, List.set_cons_succ]
        refine pt_q (v := ?_) rfl (by rfl) ?_ ?_
        rotate_left
        · intro w' hBw'
          first | (go_simp; done) | (go_simp; with_reducible rfl)
        try simp only [Act.put, List.getElem_toArray, List.getElem_cons_zero, List.getElem_cons_succ, List.setIfInBounds_toArray, List.set_cons_zero, List.set_cons_succ]
        refine pt_q (v := ?_) rfl (by rfl) ?_ ?_
        rotate_left
        · intro w' hBw'
          have qL0 := hBw'.cell n0 (fun e => e)
          have qL1 := hBw'.cell n1 (fun e => e)
          have qL2 := hBw'.cell n2 (fun e => e)
          have qL3 := hBw'.cell n3 (fun e => e)
          first | (go_simp; done) | (go_simp; with_reducible rfl)
        try simp only [Act.put, List.getElem_toArray, List.getElem_cons_zero, List.getElem_cons_succ, List.setIfInBounds_toArray, List.set_cons_zero, List.set_cons_succ]
        refine pt_c ?_
        refine pt_step rfl (by rfl) (fun K hK => ?_)
        go_simp
        refine (HRC.out _).mono ?_
        rintro en v10 ⟨rfl, hb10⟩
        refine hK.out _ _ (But.of_below hb10) ?_
        clear hK K
        try simp only [Act.put, List.getElem_toArray, List.getElem_cons_zero, List.getElem_cons_succ, List.setIfInBounds_toArray, List.set_cons_zero, List.set_cons_succ]
        refine pt_q (v := ?_) rfl (by rfl) ?_ ?_
        rotate_left
        · intro w' hBw'
          first | (go_simp; done) | (go_simp; with_reducible rfl)
        try simp only [Act.put, List.getElem_toArray, List.getElem_cons_zero, List.getElem_cons_succ, List.setIfInBounds_toArray, List.set_cons_zero, List.set_cons_succ]
        refine pt_q (v := ?_) rfl (by rfl) ?_ ?_
        rotate_left
        · intro w' hBw'
          first | (go_simp; done) | (go_simp; with_reducible rfl)
        try simp only [Act.put, List.getElem_toArray, List.getElem_cons_zero, List.getElem_cons_succ, List.setIfInBounds_toArray, List.set_cons_zero, List.set_cons_succ]
        refine pt_q (v := ?_) rfl (by rfl) ?_ ?_
        rotate_left
        · intro w' hBw'
          first | (go_simp; done) | (go_simp; with_reducible rfl)
        try simp only [Act.put, List.getElem_toArray, List.getElem_cons_zero, List.getElem_cons_succ, List.setIfInBounds_toArray, List.set_cons_zero, List.set_cons_succ]
        refine pt_no rfl (by rfl) ?_
        try simp only [Act.put, List.getElem_toArray, List.getElem_cons_zero, List.getElem_cons_succ, List.setIfInBounds_toArray, List.set_cons_zero, List.set_cons_succ]
        refine pt_no rfl (by rfl) ?_
        try simp only [Act.put, List.getElem_toArray, List.getElem_cons_zero, List.getElem_cons_succ, List.setIfInBounds_toArray, List.set_cons_zero, List.set_cons_succ]
        refine pt_no rfl (by rfl) ?_
        try simp only [Act.put, List.getElem_toArray, List.getElem_cons_zero, List.getElem_cons_succ, List.setIfInBounds_toArray, List.set_cons_zero, List.set_cons_succ]
        refine pt_no rfl (by rfl) ?_
        try simp only [Act.put, List.getElem_toArray, List.getElem_cons_zero, List.getElem_cons_succ, List.setIfInBounds_toArray, List.set_cons_zero, List.set_cons_succ]
        refine pt_no rfl (by rfl) ?_
        try simp only [Act.put, List.getElem_toArray, List.getElem_cons_zero, List.getElem_cons_succ, List.setIfInBounds_toArray, List.set_cons_zero, List.set_cons_succ]
        refine pt_q (v := ?_) rfl (by rfl) ?_ ?_
        rotate_left
        · intro w' hBw'
          first | (go_simp; done) | (go_simp; with_reducible rfl)
        try simp only [Act.put, List.getElem_toArray, List.getElem_cons_zero, List.getElem_cons_succ, List.setIfInBounds_toArray, List.set_cons_zero, List.set_cons_succ]
        refine pt_done ?_
        have D10 := below_up (below_up HD9.out hBd) hb10
        have Z10 := (Z9.below hBd).below hb10
        clear hBd hb10
        have z0 := Z10.cell (i := 0) rfl
        have z1 := Z10.cell (i := 1) rfl
        have z2 := Z10.cell (i := 2) rfl
        have z3 := Z10.cell (i := 3) rfl
        have f0 := Z10.fz 0
        have f1 := Z10.fz 1
        have f2 := Z10.fz 2
        have f3 := Z10.fz 3
        go_wp2
        have hZ := (((Z10.set 0 (.int .u32 0)).set 1 (.int .u32 0)).set 2 (.int .u64 0)).set 3 (.int .u32 0)
        have g0 := RowAt.cell hZ (i := 0) (v := .int .u32 0) rfl
        have g1 := RowAt.cell hZ (i := 1) (v := .int .u32 0) rfl
        have g2 := RowAt.cell hZ (i := 2) (v := .int .u64 0) rfl
        have g3 := RowAt.cell hZ (i := 3) (v := .int .u32 0) rfl
        refine bodyPost_ret (v := .tuple #[nmW 0 0 0 0, .bool false]) (by simp [results, Tryd.results33, go_sem, g0, g1, g2, g3]) rfl ?_
        exact ⟨by rw [HRF.out], But.below (O := fun k => w.heap.size ≤ k) ((But.of_below D10).trans (((But.setCell _ _ _ (by simp)).trans (But.setCell _ _ _ (by simp))).trans ((But.setCell _ _ _ (by simp)).trans (But.setCell _ _ _ (by simp))))) (fun k e => e) (Nat.le_refl _)⟩
end Go.Proofs.YtpfgepgjpnekdaaDoor
