/-
  SeenCopies: the walk.
-/
import Derived.Test.YtfoncaamhleckaaSeenPlays
namespace Go.Proofs.Ytfoncaamhleckaa
open Go.RowKit Go.Maps Trc Sn
set_option linter.unusedSimpArgs false
set_option linter.unusedVariables false

abbrev twC (x0 x1 : Ac) : List Value := [.int .i64 x0.what, .int .u32 x0.s.n.node, .int .u32 x0.s.n.service, .int .u64 x0.s.n.time, .int .u32 x0.s.n.seq, .bool x0.s.b, .int .u8 x0.s.c, .int .u64 x0.at_, .int .i64 x1.what, .int .u32 x1.s.n.node, .int .u32 x1.s.n.service, .int .u64 x1.s.n.time, .int .u32 x1.s.n.seq, .bool x1.s.b, .int .u8 x1.s.c, .int .u64 x1.at_]
theorem twC_0 (x0 x1 : Ac) : ∀ j, j < (acC x0).length → (acC x0)[j]? = (twC x0 x1)[0 + j]? := by
  intro j hj
  simp only [List.length_cons, List.length_nil] at hj
  match j, hj with
  | 0, _ => rfl
  | 1, _ => rfl
  | 2, _ => rfl
  | 3, _ => rfl
  | 4, _ => rfl
  | 5, _ => rfl
  | 6, _ => rfl
  | 7, _ => rfl
theorem twC_1 (x0 x1 : Ac) : ∀ j, j < (acC x1).length → (acC x1)[j]? = (twC x0 x1)[8 + j]? := by
  intro j hj
  simp only [List.length_cons, List.length_nil] at hj
  match j, hj with
  | 0, _ => rfl
  | 1, _ => rfl
  | 2, _ => rfl
  | 3, _ => rfl
  | 4, _ => rfl
  | 5, _ => rfl
  | 6, _ => rfl
  | 7, _ => rfl
/-- Both tables behind the last two acts. -/
structure CpW (w W : World) (T M T2 M2 Q1 Q2 : Nat) (most : Int) (s1 s2 : Value) (E1 L1 E2 L2 : List (Sg × Int)) : Prop where
  below : Below w.heap.size w W
  t1 : Tab W T M most E1
  t2 : Tab W T2 M2 most E2
  q1 : RowAt W Q1 #[s1, .int .i64 most] 49
  q2 : RowAt W Q2 #[s2, .int .i64 most] 49
  l1 : Sl W 7 s1 L1.length (L1.flatMap rwC)
  l2 : Sl W 7 s2 L2.length (L2.flatMap rwC)
theorem CpW.up {w W W' : World} {T M T2 M2 Q1 Q2 : Nat} {most : Int} {s1 s2 : Value} {E1 L1 E2 L2 : List (Sg × Int)} (h : CpW w W T M T2 M2 Q1 Q2 most s1 s2 E1 L1 E2 L2) (hb : Below W.heap.size W W') : CpW w W' T M T2 M2 Q1 Q2 most s1 s2 E1 L1 E2 L2 :=
  ⟨below_up h.below hb, h.t1.below hb, h.t2.below hb, h.q1.below hb, h.q2.below hb, h.l1.up hb, h.l2.up hb⟩
theorem sameK {L1 L2 : List (Sg × Int)} {v1 v2 : Value} {m : Int} {b : Bool} (hb : decide (L1 = L2) = b) (w : World) (h1 : Sl w 7 v1 L1.length (L1.flatMap rwC)) (h2 : Sl w 7 v2 L2.length (L2.flatMap rwC)) :
    Calls Try.prog 18 #[tbV v1 m, tbV v2 m] w (Ret (.bool b) w) := by
  have := rSame_c L1 L2 v1 v2 L1.length L2.length m m w h1 h2
  unfold sameT at this
  rw [hb] at this
  simpa using this
theorem seSameK {T1 M1 T2 M2 : Nat} {m : Int} {E1 E2 L1 L2 : List (Sg × Int)} {b : Bool} (s1 : SrtE E1 L1) (s2 : SrtE E2 L2) (hb : decide (L1 = L2) = b) (w : World) (h1 : Tab w T1 M1 m E1) (h2 : Tab w T2 M2 m E2) :
    Calls Try.prog 10 #[.pointer (some ⟨T1, 0, none⟩), .pointer (some ⟨T2, 0, none⟩)] w (Ret (.bool b) w) := by
  have := seSame_c w h1 h2
  rw [eqB_same s1 s2 h1.map.nodup h2.map.nodup, hb] at this
  simpa using this

set_option maxHeartbeats 8000000 in
set_option maxRecDepth 100000 in
theorem seenCopies_c (l : List Ac) (x0 x1 : Ac) (v : Value) (n : Nat) (most : Int) (w : World) (hv : Sl w 8 v n (l.flatMap acC)) (hn : n ≤ 30) (hwf : ∀ a ∈ l, a.s.wf) (hx0 : x0.s.wf) (hx1 : x1.s.wf) (h0 : 0 ≤ most) (h1 : most ≤ 4096) :
    Calls Try.prog 5 #[.int .i64 most, v, .agg (twC x0 x1).toArray] w (Ret (.bool true) w) := by
  have Hln := Lib.hid (Sl.recs (cells := acC) (sz := 8) (fun _ => rfl) (by decide) hv)
  obtain ⟨a, c, rfl⟩ := hv.len
  have hle : ¬ (30 : Int) < (n : Int) := by omega
  have HWF := Lib.hid hwf
  have HX0 := Lib.hid hx0
  have HX1 := Lib.hid hx1
  clear hwf hx0 hx1
  have hbT := below_alloc w (.cells (twC x0 x1).toArray 55)
  have O0 := RowAt.new w (twC x0 x1).toArray 55
  have HV := Lib.hid (hv.up hbT)
  have hz1 : (w.alloc (.cells (twC x0 x1).toArray 55)).heap.size = w.heap.size + 1 := by simp
  obtain ⟨wt, hwt⟩ : ∃ W, (w.alloc (.cells (twC x0 x1).toArray 55)) = W := ⟨_, rfl⟩
  rw [hwt] at hbT O0 HV hz1
  have HBT := Lib.hid hbT
  have HZ := Lib.hid hz1
  clear hv hbT hz1
  go_enter Try.func5, Try.ntmps5
  go_wp2_with (first
    | (go_at_call 7; refine (seNew_yes most h0 h1 _).mono ?_; rintro en w1 ⟨T, M, rfl, hT1, hTl, hMl, hb1⟩)
    | (go_at_call 13; refine (rNew_yes most h0 h1 _).mono ?_; rintro en w2 ⟨rfl, hb2⟩)
    | (go_at_call 8; refine (num_c _ _).mono ?_; rintro en w9 ⟨rfl, rfl⟩))
  clear hwt
  have I0 : PlI wt (w2.alloc (.cells #[.slice none 0 0, .int .i64 most] 49)) T M w2.heap.size most (.slice none 0 0) [] [] :=
    ⟨below_up (below_up hb1 hb2) (below_alloc _ _), (hT1.below hb2).below (below_alloc _ _), RowAt.new _ _ _, Sl.nil _ _, SrtE.nil, hTl, hMl, (below_up hb1 hb2).size, by have := (hT1.below hb2).var.lt; omega, by have := (hT1.below hb2).map.lt; omega⟩
  have O1 := O0.below (below_up (below_up hb1 hb2) (below_alloc w2 (.cells #[.slice none 0 0, .int .i64 most] 49)))
  obtain ⟨B, hB⟩ : ∃ B, w2.heap.size = B := ⟨_, rfl⟩
  obtain ⟨w3, hw3⟩ : ∃ W, w2.alloc (.cells #[.slice none 0 0, .int .i64 most] 49) = W := ⟨_, rfl⟩
  rw [hw3] at O1
  rw [hw3, hB] at I0
  try rw [hw3]
  try rw [hB]
  clear hT1 hTl hMl hb1 hb2 hw3 h0 h1 O0
  go_loopw [11] (fun i wr => ∃ (k : Nat) (u : Value) (E L : List (Sg × Int)), k ≤ n ∧ i = .int .i64 k ∧ PlI wt wr T M B most u E L ∧ RowAt wr w.heap.size (twC x0 x1).toArray 55) (fun i _ => n - (intOf i).toNat)
  case atStart => exact ⟨0, _, _, _, Nat.zero_le _, rfl, I0, O1⟩
  case round =>
    clear I0 hB O1
    obtain ⟨k, u, E, L, hk, rfl, I, O⟩ := hrel
    obtain ⟨au, cu, rfl⟩ := I.want.len
    have hBl := I.p.lt
    have hTl := I.tab.var.lt
    have hMl := I.tab.map.lt
    have hneM := I.neM
    have hneT := I.neT
    have hlM := I.lowM
    have hlB := I.lowB
    have hsw := I.below.size
    have hzt := HZ.out
    by_cases hlt : k < n
    · have hltI : (k : Int) < (n : Int) := by omega
      have hlt' : k < l.length := by rw [Hln.out]; exact hlt
      obtain ⟨b, off, rfl, hr0⟩ := HV.out.rec_at (cells := acC) (sz := 8) (fun _ => rfl) hlt hlt'
      have hr := rangeAt_up I.below hr0
      have hb0 : b < wt.heap.size := World.block_lt_of_cell? wt ⟨b, off + k * 8 + 0, none⟩ (hr0 0 _ rfl)
      have hw1 := HWF.out l[k] (List.getElem_mem hlt')
      generalize l[k] = x at *
      have HSA := Lib.hid (I.srt.act most x)
      obtain ⟨E', hE'⟩ : ∃ E', actE most E x = E' := ⟨_, rfl⟩
      obtain ⟨L', hL'⟩ : ∃ L', actL most L x = L' := ⟨_, rfl⟩
      rw [hE', hL'] at HSA
      have HAC := Lib.hid (fun (W : World) (h : PlI wt W T M B most (.slice au L.length cu) E L) => (show Calls Try.prog 14 _ W (ActPost T M most E' L' W) from by have := act_c x hw1 W h.tab h.want h.srt; rw [hE', hL'] at this; exact this))
      clear hE' hL' hzt
      go_wp2
      refine wp_region_pt (fun i => i = M ∨ i = B) (.q 0 (.q 2 (.q 3 (.q 4 (.q 5 (.c 1 (.c 6 (.q 7 (.q 8 (.q 9 (.c 10 .done))))))))))) (by kernel_rfl) (by kernel_rfl) (by kernel_rfl) (by decide) (fun _ _ d _ _ h => by cases d <;> exact h) (fun Wd hBd => ?_)
      try simp only [Act.put, List.getElem_toArray, List.getElem_cons_zero, List.getElem_cons_succ, List.setIfInBounds_toArray, List.set_cons_zero, List.set_cons_succ]
      have I2 := I.up hBd
      have hz2 := hBd.size
      have hr2 := rangeAt_up hBd hr
      have hzt := HZ.out
      have cu5 : Wd.cell? ⟨B, 0, none⟩ = some (.slice au L.length cu) := I2.p.cell (i := 0) rfl
      have cu6 : Wd.cell? ⟨B, 1, none⟩ = some (.int .i64 most) := I2.p.cell (i := 1) rfl
      refine pt_q (v := ?_) rfl (by rfl) ?_ ?_
      rotate_left
      · intro w' hBw'
        first | (go_simp; done) | (go_simp; with_reducible rfl)
      try simp only [Act.put, List.getElem_toArray, List.getElem_cons_zero, List.getElem_cons_succ, List.setIfInBounds_toArray, List.set_cons_zero, List.set_cons_succ]
      refine pt_q (v := ?_) rfl (by rfl) ?_ ?_
      rotate_left
      · intro w' hBw'
        first | (go_simp; done) | (go_simp; with_reducible rfl)
      try simp only [Act.put, List.getElem_toArray, List.getElem_cons_zero, List.getElem_cons_succ, List.setIfInBounds_toArray, List.set_cons_zero, List.set_cons_succ]
      refine pt_q (v := ?_) rfl (by rfl) ?_ ?_
      rotate_left
      · intro w' hBw'
        first | (go_simp; done) | (go_simp; with_reducible rfl)
      try simp only [Act.put, List.getElem_toArray, List.getElem_cons_zero, List.getElem_cons_succ, List.setIfInBounds_toArray, List.set_cons_zero, List.set_cons_succ]
      refine pt_q (v := ?_) rfl (by rfl) ?_ ?_
      rotate_left
      · intro w' hBw'
        first | (go_simp; done) | (go_simp; with_reducible rfl)
      try simp only [Act.put, List.getElem_toArray, List.getElem_cons_zero, List.getElem_cons_succ, List.setIfInBounds_toArray, List.set_cons_zero, List.set_cons_succ]
      refine pt_load rfl (by rfl) 40 (.tmp 52) rfl b (off + k * 8) rfl (acC x) _ hr2 (by omega) Try.underlying40 rfl (by kernel_rfl) ?_
      try simp only [Act.put, List.getElem_toArray, List.getElem_cons_zero, List.getElem_cons_succ, List.setIfInBounds_toArray, List.set_cons_zero, List.set_cons_succ]
      refine pt_c ?_
      refine pt_step rfl (by rfl) (fun K hK => ?_)
      go_simp
      refine hK.out _ _ (But.refl _ _) ?_
      clear hK K
      try simp only [Act.put, List.getElem_toArray, List.getElem_cons_zero, List.getElem_cons_succ, List.setIfInBounds_toArray, List.set_cons_zero, List.set_cons_succ]
      refine pt_c ?_
      refine pt_step rfl (by rfl) (fun K hK => ?_)
      go_simp
      refine (HAC.out _ I2).mono ?_
      rintro en w6 ⟨u', rfl, hp6, hs6, hb6⟩
      refine hK.out _ _ (hb6.mono fun _ _ e => .inl e) ?_
      clear hK K
      try simp only [Act.put, List.getElem_toArray, List.getElem_cons_zero, List.getElem_cons_succ, List.setIfInBounds_toArray, List.set_cons_zero, List.set_cons_succ]
      obtain ⟨a6, c6, rfl⟩ := hs6.len
      have hR6 := I2.p.butS hb6 hneM
      refine pt_q (v := ?_) rfl (by rfl) ?_ ?_
      rotate_left
      · intro w' hBw'
        first | (go_simp; done) | (go_simp; with_reducible rfl)
      try simp only [Act.put, List.getElem_toArray, List.getElem_cons_zero, List.getElem_cons_succ, List.setIfInBounds_toArray, List.set_cons_zero, List.set_cons_succ]
      refine pt_q (v := ?_) rfl (by rfl) ?_ ?_
      rotate_left
      · intro w' hBw'
        first | (go_simp; done) | (go_simp; with_reducible rfl)
      try simp only [Act.put, List.getElem_toArray, List.getElem_cons_zero, List.getElem_cons_succ, List.setIfInBounds_toArray, List.set_cons_zero, List.set_cons_succ]
      refine pt_q (v := ?_) rfl (by rfl) ?_ ?_
      rotate_left
      · intro w' hBw'
        first | (go_simp; done) | (go_simp; with_reducible rfl)
      try simp only [Act.put, List.getElem_toArray, List.getElem_cons_zero, List.getElem_cons_succ, List.setIfInBounds_toArray, List.set_cons_zero, List.set_cons_succ]
      refine pt_c ?_
      refine pt_put_row rfl (by rfl) 49 _ _ rfl B [.slice a6 L'.length c6, .int .i64 most] rfl rfl hR6 rfl (by kernel_rfl) rfl (.inr rfl) (fun wA hRA hbA => ?_)
      try simp only [Act.put, List.getElem_toArray, List.getElem_cons_zero, List.getElem_cons_succ, List.setIfInBounds_toArray, List.set_cons_zero, List.set_cons_succ]
      refine pt_done ?_
      have J := PlI.next I2 hb6 hp6 hs6 HSA.out hbA hRA
      have OJ := ((O.below hBd).butS hb6 (by omega)).butS hbA (by omega)
      clear hr2 hb6 hp6 hs6 hBd hz2 hbA hRA hR6
      go_wp2
      go_roundw
      case rel => exact ⟨k + 1, _, _, _, by omega, by go_num, J, OJ⟩
      case measure => simp [intOf]; omega
    · obtain rfl : k = n := by omega
      obtain ⟨E1, hE1⟩ : ∃ E', actE most E x0 = E' := ⟨_, rfl⟩
      obtain ⟨L1, hL1⟩ : ∃ L', actL most L x0 = L' := ⟨_, rfl⟩
      obtain ⟨E2, hE2⟩ : ∃ E', actE most E x1 = E' := ⟨_, rfl⟩
      obtain ⟨L2, hL2⟩ : ∃ L', actL most L x1 = L' := ⟨_, rfl⟩
      have HS1 := Lib.hid (show SrtE E1 L1 from by rw [← hE1, ← hL1]; exact I.srt.act most x0)
      have HS2 := Lib.hid (show SrtE E2 L2 from by rw [← hE2, ← hL2]; exact I.srt.act most x1)
      have HSE := Lib.hid I.srt
      have HA0 := Lib.hid (fun (W : World) (T M : Nat) (u : Value) (h : Tab W T M most E) (hu : Sl W 7 u L.length (L.flatMap rwC)) => (show Calls Try.prog 14 #[.pointer (some ⟨T, 0, none⟩), tbV u most, acV x0] W (ActPost T M most E1 L1 W) from by have := act_c x0 HX0.out W h hu HSE.out; rw [hE1, hL1] at this; exact this))
      have HA1 := Lib.hid (fun (W : World) (T M : Nat) (u : Value) (h : Tab W T M most E) (hu : Sl W 7 u L.length (L.flatMap rwC)) => (show Calls Try.prog 14 #[.pointer (some ⟨T, 0, none⟩), tbV u most, acV x1] W (ActPost T M most E2 L2 W) from by have := act_c x1 HX1.out W h hu HSE.out; rw [hE2, hL2] at this; exact this))
      clear hE1 hL1 hE2 hL2
      obtain ⟨sb, hsb⟩ : ∃ b, decide (L1 = L2) = b := ⟨_, rfl⟩
      have HB1 := Lib.hid hsb
      have HB2 := Lib.hid (show decide (L2 = L1) = sb by rw [← hsb]; exact decide_eq_decide.2 eq_comm)
      clear hsb
      have p0 := I.p.cell (i := 0) rfl
      have p1 := I.p.cell (i := 1) (v := .int .i64 most) rfl
      have hTR := Lib.hid True.intro
      have t1 := Lib.hid True.intro
      have s1 := Lib.hid True.intro
      have s2 := Lib.hid True.intro
      go_wp2_with (first
        | (go_at_call 17; refine (seCopy_c _ I.tab).mono ?_; rintro en w4 ⟨T2, M2, rfl, hT2, hT2l, hM2l, hb4⟩; have I4 := I.up hb4; have O4 := O.below hb4; have p40 := I4.p.cell (i := 0) (v := .slice au L.length cu) rfl; have p41 := I4.p.cell (i := 1) (v := .int .i64 most) rfl; have hz4 := hb4.size)
        | (refine wpList_load_mid rfl 40 (.tmp 62) rfl w.heap.size 0 rfl (acC x0) _ (rangeAt_sub O4.range 0 0 rfl (twC_0 x0 x1)) Try.underlying40 rfl (by kernel_rfl) ?_)
        | (go_at_call 14; have Tz := hTR; clear Tz hTR; refine (HA0.out _ T M _ I4.tab I4.want).mono ?_; rintro en w6 ⟨u3, rfl, ht6, hs6, hb6⟩; obtain ⟨a3, c3, rfl⟩ := hs6.len; have hz6 := hb6.size; have hb7 := below_alloc w6 (.cells #[.slice a3 L1.length c3, .int .i64 most] 49); have r6 := RowAt.new w6 #[.slice a3 L1.length c3, .int .i64 most] 49; have P6 := (I4.p.butS hb6 hneM).below hb7; have O6 := (O4.butS hb6 (by omega)).below hb7; have T26 := (hT2.but hb6 (by omega) (by omega)).below hb7; have W6 := (I4.want.but hb6 (I4.want.offMap (by decide) I4.tab.map)).up hb7; have p60 := P6.cell (i := 0) (v := .slice au L.length cu) rfl; have p61 := P6.cell (i := 1) (v := .int .i64 most) rfl; have B6 := Lib.hid ((I4.below.trans (hb6.below (fun j e => by omega) I4.below.size)).trans (hb7.mono (by omega))); have T16 := ht6.below hb7; have l16 := hs6.up hb7)
        | (refine wpList_load_mid rfl 40 (.tmp 70) rfl w.heap.size 8 rfl (acC x1) _ (rangeAt_sub O6.range 8 8 rfl (twC_1 x0 x1)) Try.underlying40 rfl (by kernel_rfl) ?_)
        | (go_at_call 14; refine (HA1.out _ T2 M2 _ T26 W6).mono ?_; rintro en w8 ⟨u4, rfl, ht8, hs8, hb8⟩; obtain ⟨a4, c4, rfl⟩ := hs8.len; have hz8 := hb8.size; have hb9 := below_alloc w8 (.cells #[.slice a4 L2.length c4, .int .i64 most] 49); have hM2 := hT2.map.lt; have hz66 := B6.out.size; have V : CpW wt (w8.alloc (.cells #[.slice a4 L2.length c4, .int .i64 most] 49)) T M T2 M2 w6.heap.size w8.heap.size most (.slice a3 L1.length c3) (.slice a4 L2.length c4) E1 L1 E2 L2 := ⟨(B6.out.trans (hb8.below (fun j e => by omega) B6.out.size)).trans (hb9.mono (by omega)), (T16.but hb8 (by omega) (by omega)).below hb9, ht8.below hb9, (r6.butS hb8 (by omega)).below hb9, RowAt.new _ _ _, (l16.but hb8 (l16.offMap (by decide) T26.map)).up hb9, hs8.up hb9⟩; have q10 := V.q1.cell (i := 0) (v := .slice a3 L1.length c3) rfl; have q11 := V.q1.cell (i := 1) (v := .int .i64 most) rfl; have q20 := V.q2.cell (i := 0) (v := .slice a4 L2.length c4) rfl; have q21 := V.q2.cell (i := 1) (v := .int .i64 most) rfl; clear ht6 hs6 hb6 hb7 r6 P6 O6 T26 W6 p60 p61 B6 T16 l16 ht8 hs8 hb8 hb9)
        | (go_at_call 18; refine (sameK HB1.out _ V.l1 V.l2).mono ?_; rintro en w10 ⟨rfl, hb10⟩; have V10 := V.up hb10; have e10 := V10.q1.cell (i := 0) (v := .slice a3 L1.length c3) rfl; have e11 := V10.q1.cell (i := 1) (v := .int .i64 most) rfl)
        | (go_at_call 15; have Tz := t1; clear Tz t1; refine (is_c 1 _ V10.t1 V10.l1 HS1.out).mono ?_; rintro en w11 ⟨rfl, hb11⟩; have V11 := V10.up hb11; have f20 := V11.q2.cell (i := 0) (v := .slice a4 L2.length c4) rfl; have f21 := V11.q2.cell (i := 1) (v := .int .i64 most) rfl)
        | (go_at_call 15; refine (is_c 2 _ V11.t2 V11.l2 HS2.out).mono ?_; rintro en w12 ⟨rfl, hb12⟩; have V12 := V11.up hb12)
        | (go_at_call 10; have Tz := s1; clear Tz s1; refine (seSameK HS1.out HS2.out HB1.out _ V12.t1 V12.t2).mono ?_; rintro en w13 ⟨rfl, hb13⟩; have V13 := V12.up hb13)
        | (go_at_call 10; have Tz := s2; clear Tz s2; refine (seSameK HS2.out HS1.out HB2.out _ V13.t2 V13.t1).mono ?_; rintro en w14 ⟨rfl, hb14⟩; have V14 := V13.up hb14)
        | (go_at_call 10; refine (seSame_no _ V14.t1).mono ?_; rintro en w15 ⟨rfl, hb15⟩; have V15 := V14.up hb15)
        | (go_at_call 6; refine (seWorks_c _).mono ?_; rintro en w16 ⟨rfl, hb16⟩; have V16 := V15.up hb16))
      go_ret
      exact ⟨rfl, below_up HBT.out V16.below⟩
set_option maxHeartbeats 1000000 in
set_option maxRecDepth 100000 in
theorem seenCopies_no (v : Value) (x0 x1 : Ac) (n : Nat) (most : Int) (w : World) (cs : List Value) (hv : Sl w 8 v n cs) (h : 30 < n ∨ most < 0 ∨ 4096 < most) : Calls Try.prog 5 #[.int .i64 most, v, .agg (twC x0 x1).toArray] w (Ret (.bool true) w) := by
  obtain ⟨a, c, rfl⟩ := hv.len
  have hb0 := below_alloc w (.cells (twC x0 x1).toArray 55)
  by_cases hm : most < 0 ∨ 4096 < most
  · have HN := Lib.hid hm
    clear h hm
    by_cases hn : (30 : Int) < (n : Int)
    all_goals
      go_enter Try.func5, Try.ntmps5
      go_wp2_with (first
        | (go_at_call 7; refine (seNew_no most HN.out _).mono ?_; rintro en w1 ⟨rfl, hb1⟩)
        | (go_at_call 13; refine (rNew_no most HN.out _).mono ?_; rintro en w2 ⟨rfl, hb2⟩)
        | (go_at_call 8; refine (num_c _ _).mono ?_; rintro en w9 ⟨rfl, rfl⟩)
        | (go_at_call 6; refine (seWorks_c _).mono ?_; rintro en wx ⟨rfl, hbx⟩))
      go_ret
      exact ⟨rfl, below_up (below_up (below_up (below_up hb0 hb1) hb2) (below_alloc _ _)) hbx⟩
  · have hn : (30 : Int) < (n : Int) := by omega
    have h0 : 0 ≤ most := by omega
    have h1 : most ≤ 4096 := by omega
    clear h hm
    go_enter Try.func5, Try.ntmps5
    go_wp2_with (first
      | (go_at_call 7; refine (seNew_yes most h0 h1 _).mono ?_; rintro en w1 ⟨T, M, rfl, hT1, hTl, hMl, hb1⟩)
      | (go_at_call 13; refine (rNew_yes most h0 h1 _).mono ?_; rintro en w2 ⟨rfl, hb2⟩)
      | (go_at_call 6; refine (seWorks_c _).mono ?_; rintro en wx ⟨rfl, hbx⟩))
    go_ret
    exact ⟨rfl, below_up (below_up (below_up (below_up hb0 hb1) hb2) (below_alloc _ _)) hbx⟩
theorem seenCopies_law (l : List Ac) (x0 x1 : Ac) (v : Value) (n : Nat) (most : Int) (w : World) (hv : Sl w 8 v n (l.flatMap acC)) (hwf : ∀ a ∈ l, a.s.wf) (h0 : x0.s.wf) (h1 : x1.s.wf) : Calls Try.prog 5 #[.int .i64 most, v, .agg (twC x0 x1).toArray] w (Ret (.bool true) w) := by
  by_cases h : 30 < n ∨ most < 0 ∨ 4096 < most
  · exact seenCopies_no v x0 x1 n most w _ hv h
  · exact seenCopies_c l x0 x1 v n most w hv (by omega) hwf h0 h1 (by omega) (by omega)
end Go.Proofs.Ytfoncaamhleckaa
