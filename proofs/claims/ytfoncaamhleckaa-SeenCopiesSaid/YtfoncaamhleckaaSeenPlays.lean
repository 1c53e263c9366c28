/-
  SeenPlays: the walk.
-/
import Derived.Test.YtfoncaamhleckaaSeW
namespace Go.Proofs.Ytfoncaamhleckaa
open Go.RowKit Go.Maps Trc Sn
set_option linter.unusedSimpArgs false
set_option linter.unusedVariables false

/-- Both tables, as they stand: the table in block T, its map in M, the document's in block B. -/
structure PlI (w wr : World) (T M B : Nat) (most : Int) (u : Value) (E L : List (Sg × Int)) : Prop where
  below : Below w.heap.size w wr
  tab : Tab wr T M most E
  p : RowAt wr B #[u, .int .i64 most] 49
  want : Sl wr 7 u L.length (L.flatMap rwC)
  srt : SrtE E L
  lowT : w.heap.size ≤ T
  lowM : w.heap.size ≤ M
  lowB : w.heap.size ≤ B
  neT : B ≠ T
  neM : B ≠ M
theorem PlI.up {w wr w2 : World} {T M B : Nat} {most : Int} {u : Value} {E L : List (Sg × Int)} (h : PlI w wr T M B most u E L) (hb : Below wr.heap.size wr w2) : PlI w w2 T M B most u E L :=
  ⟨below_up h.below hb, h.tab.below hb, h.p.below hb, h.want.up hb, h.srt, h.lowT, h.lowM, h.lowB, h.neT, h.neM⟩
/-- Behind act, and its result in block B. -/
theorem PlI.next {w wr w2 w3 : World} {T M B : Nat} {most : Int} {u u' : Value} {E L E' L' : List (Sg × Int)} (h : PlI w wr T M B most u E L) (hb : But (· = M) wr w2) (hp : Tab w2 T M most E') (hu : Sl w2 7 u' L'.length (L'.flatMap rwC)) (hi : SrtE E' L')
    (h3 : But (· = B) w2 w3) (hr : RowAt w3 B #[u', .int .i64 most] 49) : PlI w w3 T M B most u' E' L' :=
  have p2 := h.p.butS hb h.neM
  ⟨(h.below.trans (hb.below (fun j e => by have := h.lowM; omega) h.below.size)).trans (h3.below (fun j e => by have := h.lowB; omega) (Nat.le_trans h.below.size hb.size)), hp.but h3 (fun e => h.neT e.symm) (fun e => h.neM e.symm), hr, hu.but h3 (hu.apart7 p2 (by simp)), hi, h.lowT, h.lowM, h.lowB, h.neT, h.neM⟩

set_option maxHeartbeats 8000000 in
set_option maxRecDepth 100000 in
theorem seenPlays_c (l : List Ac) (v : Value) (n : Nat) (most : Int) (w : World) (hv : Sl w 8 v n (l.flatMap acC)) (hn : n ≤ 60) (hwf : ∀ a ∈ l, a.s.wf) (h0 : 0 ≤ most) (h1 : most ≤ 4096) :
    Calls Try.prog 4 #[.int .i64 most, v] w (Ret (.bool true) w) := by
  have Hln := Lib.hid (Sl.recs (cells := acC) (sz := 8) (fun _ => rfl) (by decide) hv)
  obtain ⟨a, c, rfl⟩ := hv.len
  have hle : ¬ (60 : Int) < (n : Int) := by omega
  have HWF := Lib.hid hwf
  clear hwf
  go_enter Try.func4, Try.ntmps4
  go_wp2_with (first
    | (go_at_call 7; refine (seNew_yes most h0 h1 _).mono ?_; rintro en w1 ⟨T, M, rfl, hT1, hTl, hMl, hb1⟩)
    | (go_at_call 13; refine (rNew_yes most h0 h1 _).mono ?_; rintro en w2 ⟨rfl, hb2⟩))
  have I0 : PlI w (w2.alloc (.cells #[.slice none 0 0, .int .i64 most] 49)) T M w2.heap.size most (.slice none 0 0) [] [] :=
    ⟨below_up (below_up hb1 hb2) (below_alloc _ _), (hT1.below hb2).below (below_alloc _ _), RowAt.new _ _ _, Sl.nil _ _, SrtE.nil, hTl, hMl, (below_up hb1 hb2).size, by have := (hT1.below hb2).var.lt; omega, by have := (hT1.below hb2).map.lt; omega⟩
  obtain ⟨B, hB⟩ : ∃ B, w2.heap.size = B := ⟨_, rfl⟩
  obtain ⟨w3, hw3⟩ : ∃ W, w2.alloc (.cells #[.slice none 0 0, .int .i64 most] 49) = W := ⟨_, rfl⟩
  rw [hw3, hB] at I0
  try rw [hw3]
  try rw [hB]
  clear hT1 hTl hMl hb1 hb2 hw3 h0 h1
  go_loopw [9] (fun i wr => ∃ (k : Nat) (u : Value) (E L : List (Sg × Int)), k ≤ n ∧ i = .int .i64 k ∧ PlI w wr T M B most u E L) (fun i _ => n - (intOf i).toNat)
  case atStart => exact ⟨0, _, _, _, Nat.zero_le _, rfl, I0⟩
  case round =>
    clear I0 hB
    obtain ⟨k, u, E, L, hk, rfl, I⟩ := hrel
    by_cases hlt : k < n
    · have hltI : (k : Int) < (n : Int) := by omega
      have hlt' : k < l.length := by rw [Hln.out]; exact hlt
      obtain ⟨b, off, rfl, hr0⟩ := hv.rec_at (cells := acC) (sz := 8) (fun _ => rfl) hlt hlt'
      have hr := rangeAt_up I.below hr0
      have hlM := I.lowM
      have hb0 : b < w.heap.size := World.block_lt_of_cell? w ⟨b, off + k * 8 + 0, none⟩ (hr0 0 _ rfl)
      have hsw := I.below.size
      have hw1 := HWF.out l[k] (List.getElem_mem hlt')
      generalize l[k] = x at *
      obtain ⟨au, cu, rfl⟩ := I.want.len
      have hBl := I.p.lt
      have hTl := I.tab.var.lt
      have hMl := I.tab.map.lt
      have hneM := I.neM
      have hneT := I.neT
      have HSA := Lib.hid (I.srt.act most x)
      obtain ⟨E', hE'⟩ : ∃ E', actE most E x = E' := ⟨_, rfl⟩
      obtain ⟨L', hL'⟩ : ∃ L', actL most L x = L' := ⟨_, rfl⟩
      rw [hE', hL'] at HSA
      have HAC := Lib.hid (fun (W : World) (h : PlI w W T M B most (.slice au L.length cu) E L) => (show Calls Try.prog 14 _ W (ActPost T M most E' L' W) from by have := act_c x hw1 W h.tab h.want h.srt; rw [hE', hL'] at this; exact this))
      clear hE' hL' hv
      go_wp2
      refine wp_region_pt (fun i => i = M ∨ wr.heap.size ≤ i) (.q 0 (.q 1 (.q 2 (.q 3 (.q 4 (.q 5 (.f 6 (.q 7 (.q 8 (.q 9 (.c 10 (.c 11 (.q 12 .done)))))) 10 (.c 6 (.q 7 (.q 8 (.q 9 (.c 11 (.q 12 .done))))))))))))) (by kernel_rfl) (by kernel_rfl) (by kernel_rfl) (by decide) (fun _ _ d _ _ h => by cases d <;> exact h) (fun Wd hBd => ?_)
      try simp only [Act.put, List.getElem_toArray, List.getElem_cons_zero, List.getElem_cons_succ, List.setIfInBounds_toArray, List.set_cons_zero, List.set_cons_succ]
      have I2 := I.up hBd
      have hz2 := hBd.size
      have hr2 := rangeAt_up hBd hr
      refine pt_q (v := ?_) rfl (by rfl) ?_ ?_
      rotate_left
      · intro w' hBw'
        first | (go_simp; done) | (go_simp; with_reducible rfl)
      try simp only [Act.put, List.getElem_toArray, List.getElem_cons_zero, List.getElem_cons_succ, List.setIfInBounds_toArray, List.set_cons_zero, List.set_cons_succ]
      refine pt_load rfl (by rfl) 49 (.tmp 7) rfl B 0 rfl [.slice au L.length cu, .int .i64 most] _ I2.p.range (by omega) Try.underlying49 rfl (by kernel_rfl) ?_
      try simp only [Act.put, List.getElem_toArray, List.getElem_cons_zero, List.getElem_cons_succ, List.setIfInBounds_toArray, List.set_cons_zero, List.set_cons_succ]
      refine pt_q (v := ?_) rfl (by rfl) ?_ ?_
      rotate_left
      · intro w' hBw'
        first | (go_simp; done) | (go_simp; with_reducible rfl)
      try simp only [Act.put, List.getElem_toArray, List.getElem_cons_zero, List.getElem_cons_succ, List.setIfInBounds_toArray, List.set_cons_zero, List.set_cons_succ]
      refine pt_q (v := ?_) rfl (by rfl) ?_ ?_
      rotate_left
      · intro w' hBw'
        first | (go_simp; done) | (go_simp; with_reducible rfl)
      try simp only [Act.put, List.getElem_toArray, List.getElem_cons_zero, List.getElem_cons_succ, List.setIfInBounds_toArray, List.set_cons_zero, List.set_cons_succ]
      refine pt_q (v := ?_) rfl (by rfl) ?_ ?_
      rotate_left
      · intro w' hBw'
        first | (go_simp; done) | (go_simp; with_reducible rfl)
      try simp only [Act.put, List.getElem_toArray, List.getElem_cons_zero, List.getElem_cons_succ, List.setIfInBounds_toArray, List.set_cons_zero, List.set_cons_succ]
      refine pt_load rfl (by rfl) 40 (.tmp 49) rfl b (off + k * 8) rfl (acC x) _ hr2 (by omega) Try.underlying40 rfl (by kernel_rfl) ?_
      try simp only [Act.put, List.getElem_toArray, List.getElem_cons_zero, List.getElem_cons_succ, List.setIfInBounds_toArray, List.set_cons_zero, List.set_cons_succ]
      refine pt_f ?_ ?_
      · refine pt_step rfl (by rfl) (fun K hK => ?_)
        go_simp
        refine (HAC.out _ I2).mono ?_
        rintro en w6 ⟨u', rfl, hp6, hs6, hb6⟩
        refine hK.out _ _ (hb6.mono fun _ _ e => .inl e) ?_
        clear hK K
        try simp only [Act.put, List.getElem_toArray, List.getElem_cons_zero, List.getElem_cons_succ, List.setIfInBounds_toArray, List.set_cons_zero, List.set_cons_succ]
        have hz6 := hb6.size
        obtain ⟨a6, c6, rfl⟩ := hs6.len
        refine pt_q (v := ?_) rfl (by rfl) ?_ ?_
        rotate_left
        · intro w' hBw'
          first | (go_simp; done) | (go_simp; with_reducible rfl)
        try simp only [Act.put, List.getElem_toArray, List.getElem_cons_zero, List.getElem_cons_succ, List.setIfInBounds_toArray, List.set_cons_zero, List.set_cons_succ]
        refine pt_q (v := ?_) rfl (by rfl) ?_ ?_
        rotate_left
        · intro w' hBw'
          first | (go_simp; done) | (go_simp; with_reducible rfl)
        try simp only [Act.put, List.getElem_toArray, List.getElem_cons_zero, List.getElem_cons_succ, List.setIfInBounds_toArray, List.set_cons_zero, List.set_cons_succ]
        refine pt_q (v := ?_) rfl (by rfl) ?_ ?_
        rotate_left
        · intro w' hBw'
          first | (go_simp; done) | (go_simp; with_reducible rfl)
        try simp only [Act.put, List.getElem_toArray, List.getElem_cons_zero, List.getElem_cons_succ, List.setIfInBounds_toArray, List.set_cons_zero, List.set_cons_succ]
        refine pt_c ?_
        refine pt_step rfl (by rfl) (fun K hK => ?_)
        go_simp
        refine hK.out _ _ (But.alloc _ _) ?_
        clear hK K
        try simp only [Act.put, List.getElem_toArray, List.getElem_cons_zero, List.getElem_cons_succ, List.setIfInBounds_toArray, List.set_cons_zero, List.set_cons_succ]
        have hR6 := RowAt.new w6 #[.slice none 0 0, .int .i64 0] 49
        have hbX := below_alloc w6 (.cells #[.slice none 0 0, .int .i64 0] 49)
        refine pt_c ?_
        refine pt_put_row rfl (by rfl) 49 _ _ rfl w6.heap.size [.slice a6 L'.length c6, .int .i64 most] rfl rfl hR6 rfl (by kernel_rfl) rfl (.inr (by omega)) (fun wA hRA hbA => ?_)
        try simp only [Act.put, List.getElem_toArray, List.getElem_cons_zero, List.getElem_cons_succ, List.setIfInBounds_toArray, List.set_cons_zero, List.set_cons_succ]
        have hA : But (· = M) Wd wA := (hb6.trans (But.of_below hbX)).then hbA (fun j hj e => by omega)
        have hpA := (hp6.below hbX).but hbA (by omega) (by omega)
        have hsA := (hs6.up hbX).but hbA ((hs6.up hbX).apart7 hR6 (by simp))
        refine pt_q (v := ?_) rfl (by rfl) ?_ ?_
        rotate_left
        · intro w' hBw'
          first | (go_simp; done) | (go_simp; with_reducible rfl)
        try simp only [Act.put, List.getElem_toArray, List.getElem_cons_zero, List.getElem_cons_succ, List.setIfInBounds_toArray, List.set_cons_zero, List.set_cons_succ]
        refine pt_done ?_
        have a6c := hRA.cell (i := 0) rfl
        have a6d := hRA.cell (i := 1) rfl
        have pA := I2.p.butS hA (by omega)
        clear hr2 hb6 hp6 hs6 hBd hz2 hz6 hbX hbA
        go_wp2_with (refine wpList_put_row rfl 49 (.tmp 7) (.tmp 54) rfl B [.slice a6 L'.length c6, .int .i64 most] rfl rfl pA rfl (by kernel_rfl) rfl ?_; intro wB hRB hbB)
        have J := PlI.next I2 hA hpA hsA HSA.out hbB hRB
        go_roundw
        case rel => exact ⟨k + 1, _, _, _, by omega, by go_num, J⟩
        case measure => simp [intOf]; omega
      · refine pt_step rfl (by rfl) (fun K hK => ?_)
        go_simp
        refine hK.out _ _ (But.alloc _ _) ?_
        clear hK K
        try simp only [Act.put, List.getElem_toArray, List.getElem_cons_zero, List.getElem_cons_succ, List.setIfInBounds_toArray, List.set_cons_zero, List.set_cons_succ]
        have hbX := below_alloc Wd (.cells #[.slice none 0 0, .int .i64 0] 49)
        have IX := I2.up hbX
        have hRX := RowAt.new Wd #[.slice none 0 0, .int .i64 0] 49
        refine pt_c ?_
        refine pt_step rfl (by rfl) (fun K hK => ?_)
        go_simp
        refine (HAC.out _ IX).mono ?_
        rintro en w6 ⟨u', rfl, hp6, hs6, hb6⟩
        refine hK.out _ _ (hb6.mono fun _ _ e => .inl e) ?_
        clear hK K
        try simp only [Act.put, List.getElem_toArray, List.getElem_cons_zero, List.getElem_cons_succ, List.setIfInBounds_toArray, List.set_cons_zero, List.set_cons_succ]
        have hz6 := hb6.size
        obtain ⟨a6, c6, rfl⟩ := hs6.len
        have hR6 := hRX.butS hb6 (by omega)
        refine pt_q (v := ?_) rfl (by rfl) ?_ ?_
        rotate_left
        · intro w' hBw'
          first | (go_simp; done) | (go_simp; with_reducible rfl)
        try simp only [Act.put, List.getElem_toArray, List.getElem_cons_zero, List.getElem_cons_succ, List.setIfInBounds_toArray, List.set_cons_zero, List.set_cons_succ]
        refine pt_q (v := ?_) rfl (by rfl) ?_ ?_
        rotate_left
        · intro w' hBw'
          first | (go_simp; done) | (go_simp; with_reducible rfl)
        try simp only [Act.put, List.getElem_toArray, List.getElem_cons_zero, List.getElem_cons_succ, List.setIfInBounds_toArray, List.set_cons_zero, List.set_cons_succ]
        refine pt_q (v := ?_) rfl (by rfl) ?_ ?_
        rotate_left
        · intro w' hBw'
          first | (go_simp; done) | (go_simp; with_reducible rfl)
        try simp only [Act.put, List.getElem_toArray, List.getElem_cons_zero, List.getElem_cons_succ, List.setIfInBounds_toArray, List.set_cons_zero, List.set_cons_succ]
        refine pt_c ?_
        refine pt_put_row rfl (by rfl) 49 _ _ rfl Wd.heap.size [.slice a6 L'.length c6, .int .i64 most] rfl rfl hR6 rfl (by kernel_rfl) rfl (.inr (by omega)) (fun wA hRA hbA => ?_)
        try simp only [Act.put, List.getElem_toArray, List.getElem_cons_zero, List.getElem_cons_succ, List.setIfInBounds_toArray, List.set_cons_zero, List.set_cons_succ]
        have hA : But (· = M) Wd wA := ((But.of_below hbX).trans hb6).then hbA (fun j hj e => by omega)
        have hpA := hp6.but hbA (by omega) (by omega)
        have hsA := hs6.but hbA (hs6.apart7 hR6 (by simp))
        refine pt_q (v := ?_) rfl (by rfl) ?_ ?_
        rotate_left
        · intro w' hBw'
          first | (go_simp; done) | (go_simp; with_reducible rfl)
        try simp only [Act.put, List.getElem_toArray, List.getElem_cons_zero, List.getElem_cons_succ, List.setIfInBounds_toArray, List.set_cons_zero, List.set_cons_succ]
        refine pt_done ?_
        have a6c := hRA.cell (i := 0) rfl
        have a6d := hRA.cell (i := 1) rfl
        have pA := I2.p.butS hA (by omega)
        clear hr2 hb6 hp6 hs6 hBd hz2 hz6 hbX hbA
        go_wp2_with (refine wpList_put_row rfl 49 (.tmp 7) (.tmp 54) rfl B [.slice a6 L'.length c6, .int .i64 most] rfl rfl pA rfl (by kernel_rfl) rfl ?_; intro wB hRB hbB)
        have J := PlI.next I2 hA hpA hsA HSA.out hbB hRB
        go_roundw
        case rel => exact ⟨k + 1, _, _, _, by omega, by go_num, J⟩
        case measure => simp [intOf]; omega
    · obtain rfl : k = n := by omega
      have p0 := I.p.cell (i := 0) rfl
      have p1 := I.p.cell (i := 1) (v := .int .i64 most) rfl
      go_wp2_with (first
        | (go_at_call 15; refine (is_c _ _ I.tab I.want I.srt).mono ?_; rintro en w4 ⟨rfl, hb4⟩)
        | (go_at_call 16; refine (none_c _).mono ?_; rintro en w5 ⟨rfl, hb5⟩)
        | (go_at_call 6; refine (seWorks_c _).mono ?_; rintro en w6 ⟨rfl, hb6⟩))
      go_ret
      exact ⟨rfl, below_up (below_up (below_up I.below hb4) hb5) hb6⟩

theorem seenPlays_big (v : Value) (n : Nat) (most : Int) (w : World) (cs : List Value) (hv : Sl w 8 v n cs) (hn : 60 < n) : Calls Try.prog 4 #[.int .i64 most, v] w (Ret (.bool true) w) := by
  obtain ⟨a, c, rfl⟩ := hv.len
  have hle : (60 : Int) < (n : Int) := by omega
  go_enter Try.func4, Try.ntmps4
  go_wp2_with (go_at_call 6; refine (seWorks_c _).mono ?_; rintro en wx ⟨rfl, hbx⟩)
  go_ret
  exact ⟨rfl, hbx⟩
set_option maxHeartbeats 1000000 in
set_option maxRecDepth 100000 in
theorem seenPlays_no (v : Value) (n : Nat) (most : Int) (w : World) (cs : List Value) (hv : Sl w 8 v n cs) (hn : n ≤ 60) (h : most < 0 ∨ 4096 < most) : Calls Try.prog 4 #[.int .i64 most, v] w (Ret (.bool true) w) := by
  obtain ⟨a, c, rfl⟩ := hv.len
  have hle : ¬ (60 : Int) < (n : Int) := by omega
  have HN := Lib.hid h
  clear h
  go_enter Try.func4, Try.ntmps4
  go_wp2_with (first
    | (go_at_call 7; refine (seNew_no most HN.out _).mono ?_; rintro en w1 ⟨rfl, hb1⟩)
    | (go_at_call 13; refine (rNew_no most HN.out _).mono ?_; rintro en w2 ⟨rfl, hb2⟩)
    | (go_at_call 8; refine (num_c _ _).mono ?_; rintro en w9 ⟨rfl, rfl⟩)
    | (go_at_call 6; refine (seWorks_c _).mono ?_; rintro en wx ⟨rfl, hbx⟩))
  go_ret
  exact ⟨rfl, below_up (below_up (below_up hb1 hb2) (below_alloc _ _)) hbx⟩
theorem seenPlays_law (l : List Ac) (v : Value) (n : Nat) (most : Int) (w : World) (hv : Sl w 8 v n (l.flatMap acC)) (hwf : ∀ a ∈ l, a.s.wf) : Calls Try.prog 4 #[.int .i64 most, v] w (Ret (.bool true) w) := by
  by_cases hn : 60 < n
  · exact seenPlays_big v n most w _ hv hn
  · by_cases hm : most < 0 ∨ 4096 < most
    · exact seenPlays_no v n most w _ hv (by omega) hm
    · exact seenPlays_c l v n most w hv (by omega) hwf (by omega) (by omega)
end Go.Proofs.Ytfoncaamhleckaa
