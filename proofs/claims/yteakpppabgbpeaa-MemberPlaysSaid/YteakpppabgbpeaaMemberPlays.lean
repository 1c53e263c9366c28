/-
  MemberPlays: the walk.
-/
import Derived.Test.YteakpppabgbpeaaMemR
import Derived.Test.YteakpppabgbpeaaMemU
import Derived.Test.YteakpppabgbpeaaMemL
namespace Go.Proofs.Yteakpppabgbpeaa
open Go.RowKit Mem
set_option linter.unusedSimpArgs false
set_option linter.unusedVariables false

/-- A slice's cells lie in no map's block. -/
theorem Sl.butMap {w w' : World} {sz n M : Nat} {v : Value} {cs : List Value} {E : List Mb} (h : Sl w sz v n cs) (hsz : 0 < sz) (hM : MMap w M E) (hb : But (· = M) w w') : Sl w' sz v n cs := by
  refine h.but hb ?_
  rcases Nat.eq_zero_or_pos n with h0 | h0
  · exact .inl h0
  · refine .inr fun k hk e => ?_
    obtain ⟨es, clock, hmm, _⟩ := hM.ex
    have hl := h.1
    rcases h.2 with ⟨a, c, rfl, h1⟩ | ⟨b, off, cap, rfl, hn, hm, hc⟩
    · omega
    · simp only [Value.ownBlock, Option.some.injEq] at hk
      have hp : 0 < n * sz := Nat.mul_pos h0 hsz
      have hc0 := hc 0 cs[0] (List.getElem?_eq_getElem (by omega))
      rw [hk, e] at hc0
      simp [World.cell?, hmm] at hc0
/-- A slice of tellings lies in no row of fewer cells. -/
theorem Sl.past4 {w w' : World} {v : Value} {n H : Nat} {cs : List Value} {rs : Array Value} {T : TypeId} (h : Sl w 4 v n cs) (hr : RowAt w H rs T) (hs : rs.size < 4) (hb : But (· = H) w w') : Sl w' 4 v n cs := by
  refine h.but hb ?_
  obtain ⟨hl, ⟨a, c, rfl, rfl⟩ | ⟨b, off, cap, rfl, hn, hm, hc⟩⟩ := h
  · exact .inl rfl
  · rcases Nat.eq_zero_or_pos n with h0 | h0
    · exact .inl h0
    · refine .inr fun k hk e => ?_
      have hb : b = k := Option.some.inj hk
      subst hb
      subst e
      have := hc 3 cs[3] (List.getElem?_eq_getElem (by omega))
      simp only [World.cell?, show w.heap[b]? = _ from hr] at this
      rw [Array.getElem?_eq_none (by omega)] at this
      cases this
/-- What a play has at hand: the roll, the document's one in block WB. -/
structure PlI (w W : World) (WB : Nat) (E L : List Mb) (u : Value) : Prop where
  roll : RollAt W (w.heap.size + 1) w.heap.size E
  var : RowAt W WB #[u] 40
  sl : Sl W 4 u L.length (L.flatMap mbC)
  srt : SrtOf E L
  below : Below w.heap.size w W
theorem PlI.up {w W W' : World} {WB : Nat} {E L : List Mb} {u : Value} (h : PlI w W WB E L u) (hb : Below W.heap.size W W') : PlI w W' WB E L u :=
  ⟨h.roll.below hb, h.var.below hb, h.sl.up hb, h.srt, below_up h.below hb⟩
/-- .. behind a telling by both. -/
theorem PlI.told {w W W' : World} {WB : Nat} {E L : List Mb} {u' : Value} {m : Mb} (hr0 : RollAt W (w.heap.size + 1) w.heap.size E) (hs : SrtOf E L) (hB : Below w.heap.size w W) (hW : WB ≠ w.heap.size) (hv : RowAt W WB #[u'] 40) (hsl : Sl W 4 u' (rtF L m).length ((rtF L m).flatMap mbC)) (hr : RollAt W' (w.heap.size + 1) w.heap.size (tellF E m)) (hb : But (· = w.heap.size) W W') : PlI w W' WB (tellF E m) (rtF L m) u' :=
  ⟨hr, hv.but hb hW, hsl.butMap (by decide) hr0.map hb, tellF_ref hr0.keys hs m, hB.trans (hb.below (fun q e => by rw [e]; exact Nat.le_refl _) hB.size)⟩
theorem memberPlays_big (v : Value) (n : Nat) (w : World) (xs : List Value) (ha : Sl w 4 v n xs) (hbig : 60 < n) : Calls Try.prog 6 #[v] w (Ret (.bool true) w) := by
  obtain ⟨a, c, rfl⟩ := ha.len
  have hn := ha.n_max
  have h1' : (60 : Int) < (n : Int) := by omega
  go_enter Try.func6, Try.ntmps6
  go_wp2_with (go_at_call 10; refine (works_c _).mono ?_; rintro en w1 ⟨rfl, hb⟩)
  go_ret
  exact ⟨rfl, hb⟩

set_option maxHeartbeats 8000000 in
set_option maxRecDepth 100000 in
theorem memberPlays_c (l : List Mb) (v : Value) (n : Nat) (w : World) (hv : Sl w 4 v n (l.flatMap mbC)) (hn : n ≤ 60) (hwf : ∀ x ∈ l, x.Wf) : Calls Try.prog 6 #[v] w (Ret (.bool true) w) := by
  have hln : l.length = n := Sl.recs (cells := mbC) (sz := 4) (fun _ => rfl) (by decide) hv
  have HLN := Lib.hid hln
  have HWF := Lib.hid hwf
  obtain ⟨av, cv, rfl⟩ := hv.len
  have HA := Lib.hid hv
  have hn0 : ¬ (60 : Int) < (n : Int) := by omega
  clear hln hwf hv
  go_enter Try.func6, Try.ntmps6
  go_wp2_with (go_at_call 11; refine (rNew_c _).mono ?_; rintro en w1 ⟨rfl, h1, hb1⟩)
  have hl1 := h1.var.lt
  have V0 : PlI w (w1.alloc (.cells #[.slice none 0 0] 40)) w1.heap.size [] [] (.slice none 0 0) :=
    ⟨h1.below (below_alloc _ _), RowAt.new _ _ _, Sl.nil _ _, ⟨List.Perm.nil, List.Pairwise.nil⟩, below_up hb1 (below_alloc _ _)⟩
  obtain ⟨WB, hWB⟩ : ∃ WB, w1.heap.size = WB := ⟨_, rfl⟩
  rw [hWB] at V0 hl1 ⊢
  obtain ⟨w2, hw2⟩ : ∃ W, w1.alloc (.cells #[.slice none 0 0] 40) = W := ⟨_, rfl⟩
  have hz2 : WB < w2.heap.size := by rw [← hw2, World.size_alloc, hWB]; omega
  rw [hw2] at V0 ⊢
  clear hw2 hWB h1 hb1 hn0
  go_loopw [5] (fun i wr => ∃ (k : Nat) (E L : List Mb) (u : Value), k ≤ n ∧ i = .int .i64 k ∧ PlI w wr WB E L u ∧ E.length ≤ k ∧ L.length ≤ k ∧ WB < wr.heap.size) (fun i _ => n - (intOf i).toNat)
  case atStart => exact ⟨0, [], [], _, Nat.zero_le _, rfl, V0, Nat.le_refl _, Nat.le_refl _, hz2⟩
  case round =>
    clear V0 hz2
    obtain ⟨k, E, L, u, hk, rfl, V, hEk, hLk, hzr⟩ := hrel
    by_cases hlt : k < n
    · have hlt' : k < l.length := by rw [HLN.out]; exact hlt
      obtain ⟨b, off, rfl, hr⟩ := (HA.out.up V.below).rec_at (cells := mbC) (sz := 4) (fun _ => rfl) hlt hlt'
      obtain ⟨b', off', e', hr0⟩ := HA.out.rec_at (cells := mbC) (sz := 4) (fun _ => rfl) hlt hlt'
      obtain ⟨rfl, rfl⟩ : b = b' ∧ off = off' := by simpa using e'
      have hbl : b < w.heap.size := by have := hr0 0 (.int .u32 l[k].node) rfl; exact World.block_lt_of_cell? w _ this
      have hwf := HWF.out _ (List.getElem_mem hlt')
      generalize l[k] = m1 at *
      clear hr0 e'
      have hki0 : (0 : Int) ≤ (k : Int) := by omega
      have hkn : (k : Int) < (n : Int) := by omega
      have hL6 : L.length ≤ 100000 := by omega
      have HEQ := Lib.hid (tellE_ref V.roll.keys V.srt m1)
      have HT1 := Lib.hid (show (tellF E m1).length ≤ k + 1 from Nat.le_trans (V.roll.keys.tell m1 (by omega)).2 (by omega))
      have HL1 := Lib.hid (show (rtF L m1).length ≤ k + 1 by rw [(tellF_ref V.roll.keys V.srt m1).len]; exact HT1.out)
      have hzw := V.below.size
      obtain ⟨au, cu, rfl⟩ := V.sl.len
      go_wp2
      refine wp_region_pt (fun i => wr.heap.size ≤ i) (.q 0 (.q 1 (.q 2 (.q 3 (.q 4 (.f 5 (.q 6 (.q 7 (.q 8 (.c 9 (.c 10 (.q 11 .done)))))) 9 (.c 5 (.q 6 (.q 7 (.q 8 (.c 10 (.q 11 .done)))))))))))) (by kernel_rfl) (by kernel_rfl) (by kernel_rfl) (by decide) (fun _ _ d _ _ h => by cases d <;> exact h) (fun Wd hBd => ?_)
      try simp only [Act.put, List.getElem_toArray, List.getElem_cons_zero, List.getElem_cons_succ, List.setIfInBounds_toArray, List.set_cons_zero, List.set_cons_succ]
      have V2 := V.up hBd
      have hszd := hBd.size
      have hrd := rangeAt_up hBd hr
      have KW := V2.var.cell (i := 0) rfl
      refine pt_q (v := ?_) rfl (by rfl) ?_ ?_
      rotate_left
      · intro w' hBw'
        try have p0 := hBw'.cell KW (by omega)
        first | (go_simp; done) | (go_simp; with_reducible rfl)
      try simp only [Act.put, List.getElem_toArray, List.getElem_cons_zero, List.getElem_cons_succ, List.setIfInBounds_toArray, List.set_cons_zero, List.set_cons_succ]
      refine pt_q (v := ?_) rfl (by rfl) ?_ ?_
      rotate_left
      · intro w' hBw'
        try have p0 := hBw'.cell KW (by omega)
        first | (go_simp; done) | (go_simp; with_reducible rfl)
      try simp only [Act.put, List.getElem_toArray, List.getElem_cons_zero, List.getElem_cons_succ, List.setIfInBounds_toArray, List.set_cons_zero, List.set_cons_succ]
      refine pt_q (v := ?_) rfl (by rfl) ?_ ?_
      rotate_left
      · intro w' hBw'
        try have p0 := hBw'.cell KW (by omega)
        first | (go_simp; done) | (go_simp; with_reducible rfl)
      try simp only [Act.put, List.getElem_toArray, List.getElem_cons_zero, List.getElem_cons_succ, List.setIfInBounds_toArray, List.set_cons_zero, List.set_cons_succ]
      refine pt_q (v := ?_) rfl (by rfl) ?_ ?_
      rotate_left
      · intro w' hBw'
        try have p0 := hBw'.cell KW (by omega)
        first | (go_simp; done) | (go_simp; with_reducible rfl)
      try simp only [Act.put, List.getElem_toArray, List.getElem_cons_zero, List.getElem_cons_succ, List.setIfInBounds_toArray, List.set_cons_zero, List.set_cons_succ]
      refine pt_load rfl (by rfl) 24 (.tmp 23) rfl b (off + k * 4) rfl (mbC m1) _ hrd (by omega) Try.underlying24 rfl (by kernel_rfl) ?_
      try simp only [Act.put, List.getElem_toArray, List.getElem_cons_zero, List.getElem_cons_succ, List.setIfInBounds_toArray, List.set_cons_zero, List.set_cons_succ]
      refine pt_f ?_ ?_
      · refine pt_step rfl (by rfl) (fun K hK => ?_)
        go_simp
        refine (rfTell_c L _ L.length m1 _ (V2.sl) hL6).mono ?_
        rintro en w3 ⟨u3, rfl, hsl3, hb3⟩
        refine hK.out _ _ (But.of_below hb3) ?_
        clear hK K
        try simp only [Act.put, List.getElem_toArray, List.getElem_cons_zero, List.getElem_cons_succ, List.setIfInBounds_toArray, List.set_cons_zero, List.set_cons_succ]
        have V3 := V2.up hb3
        have hz3 := hb3.size
        obtain ⟨x1, x2, rfl⟩ := hsl3.len
        refine pt_q (v := ?_) rfl (by rfl) ?_ ?_
        rotate_left
        · intro w' hBw'
          try have p0 := hBw'.cell KW (by omega)
          first | (go_simp; done) | (go_simp; with_reducible rfl)
        try simp only [Act.put, List.getElem_toArray, List.getElem_cons_zero, List.getElem_cons_succ, List.setIfInBounds_toArray, List.set_cons_zero, List.set_cons_succ]
        refine pt_q (v := ?_) rfl (by rfl) ?_ ?_
        rotate_left
        · intro w' hBw'
          try have p0 := hBw'.cell KW (by omega)
          first | (go_simp; done) | (go_simp; with_reducible rfl)
        try simp only [Act.put, List.getElem_toArray, List.getElem_cons_zero, List.getElem_cons_succ, List.setIfInBounds_toArray, List.set_cons_zero, List.set_cons_succ]
        refine pt_q (v := ?_) rfl (by rfl) ?_ ?_
        rotate_left
        · intro w' hBw'
          try have p0 := hBw'.cell KW (by omega)
          first | (go_simp; done) | (go_simp; with_reducible rfl)
        try simp only [Act.put, List.getElem_toArray, List.getElem_cons_zero, List.getElem_cons_succ, List.setIfInBounds_toArray, List.set_cons_zero, List.set_cons_succ]
        refine pt_c ?_
        refine pt_step rfl (by rfl) (fun K hK => ?_)
        go_simp
        refine hK.out _ _ (But.alloc _ _) ?_
        clear hK K
        try simp only [Act.put, List.getElem_toArray, List.getElem_cons_zero, List.getElem_cons_succ, List.setIfInBounds_toArray, List.set_cons_zero, List.set_cons_succ]
        have r4 := RowAt.new w3 #[.slice none 0 0] 40
        refine pt_c ?_
        refine pt_put_row rfl (by rfl) 40 _ _ rfl w3.heap.size [.slice x1 (rtF L m1).length x2] rfl rfl r4 rfl (by kernel_rfl) rfl (by show wr.heap.size ≤ _; omega) (fun wA hRA hbA => ?_)
        try simp only [Act.put, List.getElem_toArray, List.getElem_cons_zero, List.getElem_cons_succ, List.setIfInBounds_toArray, List.set_cons_zero, List.set_cons_succ]
        refine pt_q (v := ?_) rfl (by rfl) ?_ ?_
        rotate_left
        · intro w' hBw'
          try have p0 := hBw'.cell KW (by omega)
          first | (go_simp; done) | (go_simp; with_reducible rfl)
        try simp only [Act.put, List.getElem_toArray, List.getElem_cons_zero, List.getElem_cons_succ, List.setIfInBounds_toArray, List.set_cons_zero, List.set_cons_succ]
        have hbN : Below w3.heap.size w3 wA := (below_alloc w3 _).trans (hbA.below (fun q e => by rw [e]; exact Nat.le_refl _) (below_alloc w3 _).size)
        have V5 := V3.up hbN
        have hsl5 := hsl3.up hbN
        have HB5 := Lib.hid (show Below wr.heap.size wr wA from below_up (below_up hBd hb3) hbN)
        refine pt_done ?_
        have hrA := rangeAt_up HB5.out hr
        have rAc := hRA.cell (i := 0) (v := .slice x1 (rtF L m1).length x2) rfl
        have kwA := V5.var.cell (i := 0) rfl
        have kwF := V5.var.fz 0
        have hzA := HB5.out.size
        have V5b := Lib.hid (show RowAt (wA.setCell ⟨WB, 0, none⟩ (.slice x1 (rtF L m1).length x2)) WB #[.slice x1 (rtF L m1).length x2] 40 from V5.var.set 0 _)
        have hbS : But (· = WB) wA (wA.setCell ⟨WB, 0, none⟩ (.slice x1 (rtF L m1).length x2)) := But.setCell _ _ _ (.inl rfl)
        have hslS := hsl5.past4 V5.var (by simp) hbS
        have hrS : (wA.setCell ⟨WB, 0, none⟩ (.slice x1 (rtF L m1).length x2)).rangeAt b (off + k * 4) (mbC m1) := fun j v hj => hbS.cell (hrA j v hj) (by omega)
        have hrollS := V5.roll.but hbS (by omega) (by omega)
        have hBS := V5.below.trans (hbS.below (fun q e => by rw [e]; omega) V5.below.size)
        go_wp2
        obtain ⟨wB, hwB⟩ : ∃ W, wA.setCell ⟨WB, 0, none⟩ (.slice x1 (rtF L m1).length x2) = W := ⟨_, rfl⟩
        have hv6 := V5b.out
        simp only [hwB] at hv6 hslS hrS hrollS hBS ⊢
        have hzB : wA.heap.size ≤ wB.heap.size := by rw [← hwB]; simp
        clear hbS hwB V5b hrA
        refine wp_region_pt (fun i => i = w.heap.size ∨ wB.heap.size ≤ i) (.q 0 (.q 1 (.q 2 (.q 3 (.q 4 (.q 7 (.c 5 (.c 6 (.q 8 (.q 9 (.q 10 (.q 11 (.q 12 (.q 13 (.q 14 (.q 15 (.q 16 (.q 17 (.c 18 (.q 19 (.q 20 .done))))))))))))))))))))) (by kernel_rfl) (by kernel_rfl) (by kernel_rfl) (by decide) (fun _ _ d _ _ h => by cases d <;> exact h) (fun Wd hBd => ?_)
        try simp only [Act.put, List.getElem_toArray, List.getElem_cons_zero, List.getElem_cons_succ, List.setIfInBounds_toArray, List.set_cons_zero, List.set_cons_succ]
        have hroll7 := hrollS.below hBd
        have hB7 := below_up hBS hBd
        have hszd2 := hBd.size
        have hrd := rangeAt_up hBd hrS
        have hv7 := hv6.below hBd
        have hsl7 := hslS.up hBd
        have KW := hv7.cell (i := 0) (v := .slice x1 (rtF L m1).length x2) rfl
        refine pt_q (v := ?_) rfl (by rfl) ?_ ?_
        rotate_left
        · intro w' hBw'
          try have p0 := hBw'.cell KW (by omega)
          try have p0 := hBw'.cell KW (by omega)
          first | (go_simp; done) | (go_simp; with_reducible rfl)
        try simp only [Act.put, List.getElem_toArray, List.getElem_cons_zero, List.getElem_cons_succ, List.setIfInBounds_toArray, List.set_cons_zero, List.set_cons_succ]
        refine pt_q (v := ?_) rfl (by rfl) ?_ ?_
        rotate_left
        · intro w' hBw'
          try have p0 := hBw'.cell KW (by omega)
          try have p0 := hBw'.cell KW (by omega)
          first | (go_simp; done) | (go_simp; with_reducible rfl)
        try simp only [Act.put, List.getElem_toArray, List.getElem_cons_zero, List.getElem_cons_succ, List.setIfInBounds_toArray, List.set_cons_zero, List.set_cons_succ]
        refine pt_q (v := ?_) rfl (by rfl) ?_ ?_
        rotate_left
        · intro w' hBw'
          try have p0 := hBw'.cell KW (by omega)
          try have p0 := hBw'.cell KW (by omega)
          first | (go_simp; done) | (go_simp; with_reducible rfl)
        try simp only [Act.put, List.getElem_toArray, List.getElem_cons_zero, List.getElem_cons_succ, List.setIfInBounds_toArray, List.set_cons_zero, List.set_cons_succ]
        refine pt_q (v := ?_) rfl (by rfl) ?_ ?_
        rotate_left
        · intro w' hBw'
          try have p0 := hBw'.cell KW (by omega)
          try have p0 := hBw'.cell KW (by omega)
          first | (go_simp; done) | (go_simp; with_reducible rfl)
        try simp only [Act.put, List.getElem_toArray, List.getElem_cons_zero, List.getElem_cons_succ, List.setIfInBounds_toArray, List.set_cons_zero, List.set_cons_succ]
        refine pt_load rfl (by rfl) 24 (.tmp 32) rfl b (off + k * 4) rfl (mbC m1) _ hrd (by omega) Try.underlying24 rfl (by kernel_rfl) ?_
        try simp only [Act.put, List.getElem_toArray, List.getElem_cons_zero, List.getElem_cons_succ, List.setIfInBounds_toArray, List.set_cons_zero, List.set_cons_succ]
        refine pt_q (v := ?_) rfl (by rfl) ?_ ?_
        rotate_left
        · intro w' hBw'
          try have p0 := hBw'.cell KW (by omega)
          try have p0 := hBw'.cell KW (by omega)
          first | (go_simp; done) | (go_simp; with_reducible rfl)
        try simp only [Act.put, List.getElem_toArray, List.getElem_cons_zero, List.getElem_cons_succ, List.setIfInBounds_toArray, List.set_cons_zero, List.set_cons_succ]
        refine pt_c ?_
        refine pt_step rfl (by rfl) (fun K hK => ?_)
        go_simp
        refine (mTell_c m1 hwf _ hroll7).mono ?_
        rw [HEQ.out]
        rintro en w8 ⟨rfl, hr8, hb8⟩
        refine hK.out _ _ (hb8.mono fun q _ e => .inl e) ?_
        clear hK K
        try simp only [Act.put, List.getElem_toArray, List.getElem_cons_zero, List.getElem_cons_succ, List.setIfInBounds_toArray, List.set_cons_zero, List.set_cons_succ]
        have V8 := PlI.told hroll7 V.srt hB7 (by omega) hv7 hsl7 hr8 hb8
        have hrd8 : w8.rangeAt b (off + k * 4) (mbC m1) := fun j v hj => hb8.cell (hrd j v hj) (by omega)
        replace KW := V8.var.cell (i := 0) (v := .slice x1 (rtF L m1).length x2) rfl
        refine pt_c ?_
        refine pt_step rfl (by rfl) (fun K hK => ?_)
        go_simp
        refine (num_cc _ _).mono ?_
        rintro en w9 ⟨rfl, rfl⟩
        refine hK.out _ _ (But.refl _ _) ?_
        clear hK K
        try simp only [Act.put, List.getElem_toArray, List.getElem_cons_zero, List.getElem_cons_succ, List.setIfInBounds_toArray, List.set_cons_zero, List.set_cons_succ]
        refine pt_q (v := ?_) rfl (by rfl) ?_ ?_
        rotate_left
        · intro w' hBw'
          try have p0 := hBw'.cell KW (by omega)
          try have p0 := hBw'.cell KW (by omega)
          first | (go_simp; done) | (go_simp; with_reducible rfl)
        try simp only [Act.put, List.getElem_toArray, List.getElem_cons_zero, List.getElem_cons_succ, List.setIfInBounds_toArray, List.set_cons_zero, List.set_cons_succ]
        refine pt_q (v := ?_) rfl (by rfl) ?_ ?_
        rotate_left
        · intro w' hBw'
          try have p0 := hBw'.cell KW (by omega)
          try have p0 := hBw'.cell KW (by omega)
          first | (go_simp; done) | (go_simp; with_reducible rfl)
        try simp only [Act.put, List.getElem_toArray, List.getElem_cons_zero, List.getElem_cons_succ, List.setIfInBounds_toArray, List.set_cons_zero, List.set_cons_succ]
        refine pt_q (v := ?_) rfl (by rfl) ?_ ?_
        rotate_left
        · intro w' hBw'
          try have p0 := hBw'.cell KW (by omega)
          try have p0 := hBw'.cell KW (by omega)
          first | (go_simp; done) | (go_simp; with_reducible rfl)
        try simp only [Act.put, List.getElem_toArray, List.getElem_cons_zero, List.getElem_cons_succ, List.setIfInBounds_toArray, List.set_cons_zero, List.set_cons_succ]
        refine pt_q (v := ?_) rfl (by rfl) ?_ ?_
        rotate_left
        · intro w' hBw'
          try have p0 := hBw'.cell KW (by omega)
          try have p0 := hBw'.cell KW (by omega)
          first | (go_simp; done) | (go_simp; with_reducible rfl)
        try simp only [Act.put, List.getElem_toArray, List.getElem_cons_zero, List.getElem_cons_succ, List.setIfInBounds_toArray, List.set_cons_zero, List.set_cons_succ]
        refine pt_q (v := ?_) rfl (by rfl) ?_ ?_
        rotate_left
        · intro w' hBw'
          try have p0 := hBw'.cell KW (by omega)
          try have p0 := hBw'.cell KW (by omega)
          first | (go_simp; done) | (go_simp; with_reducible rfl)
        try simp only [Act.put, List.getElem_toArray, List.getElem_cons_zero, List.getElem_cons_succ, List.setIfInBounds_toArray, List.set_cons_zero, List.set_cons_succ]
        refine pt_q (v := ?_) rfl (by rfl) ?_ ?_
        rotate_left
        · intro w' hBw'
          try have p0 := hBw'.cell KW (by omega)
          try have p0 := hBw'.cell KW (by omega)
          first | (go_simp; done) | (go_simp; with_reducible rfl)
        try simp only [Act.put, List.getElem_toArray, List.getElem_cons_zero, List.getElem_cons_succ, List.setIfInBounds_toArray, List.set_cons_zero, List.set_cons_succ]
        refine pt_q (v := ?_) rfl (by rfl) ?_ ?_
        rotate_left
        · intro w' hBw'
          try have p0 := hBw'.cell KW (by omega)
          try have p0 := hBw'.cell KW (by omega)
          first | (go_simp; done) | (go_simp; with_reducible rfl)
        try simp only [Act.put, List.getElem_toArray, List.getElem_cons_zero, List.getElem_cons_succ, List.setIfInBounds_toArray, List.set_cons_zero, List.set_cons_succ]
        refine pt_load rfl (by rfl) 24 (.tmp 43) rfl b (off + k * 4) rfl (mbC m1) _ hrd8 (by omega) Try.underlying24 rfl (by kernel_rfl) ?_
        try simp only [Act.put, List.getElem_toArray, List.getElem_cons_zero, List.getElem_cons_succ, List.setIfInBounds_toArray, List.set_cons_zero, List.set_cons_succ]
        refine pt_q (v := ?_) rfl (by rfl) ?_ ?_
        rotate_left
        · intro w' hBw'
          try have p0 := hBw'.cell KW (by omega)
          try have p0 := hBw'.cell KW (by omega)
          first | (go_simp; done) | (go_simp; with_reducible rfl)
        try simp only [Act.put, List.getElem_toArray, List.getElem_cons_zero, List.getElem_cons_succ, List.setIfInBounds_toArray, List.set_cons_zero, List.set_cons_succ]
        refine pt_q (v := ?_) rfl (by rfl) ?_ ?_
        rotate_left
        · intro w' hBw'
          try have p0 := hBw'.cell KW (by omega)
          try have p0 := hBw'.cell KW (by omega)
          first | (go_simp; done) | (go_simp; with_reducible rfl)
        try simp only [Act.put, List.getElem_toArray, List.getElem_cons_zero, List.getElem_cons_succ, List.setIfInBounds_toArray, List.set_cons_zero, List.set_cons_succ]
        refine pt_c ?_
        refine pt_step rfl (by rfl) (fun K hK => ?_)
        go_simp
        refine (is_c _ m1 _ V8.roll V8.srt V8.sl hwf (by have := HL1.out; omega)).mono ?_
        rintro en w10 ⟨rfl, hb10⟩
        refine hK.out _ _ (But.of_below hb10) ?_
        clear hK K
        try simp only [Act.put, List.getElem_toArray, List.getElem_cons_zero, List.getElem_cons_succ, List.setIfInBounds_toArray, List.set_cons_zero, List.set_cons_succ]
        refine pt_q (v := ?_) rfl (by rfl) ?_ ?_
        rotate_left
        · intro w' hBw'
          try have p0 := hBw'.cell KW (by omega)
          try have p0 := hBw'.cell KW (by omega)
          first | (go_simp; done) | (go_simp; with_reducible rfl)
        try simp only [Act.put, List.getElem_toArray, List.getElem_cons_zero, List.getElem_cons_succ, List.setIfInBounds_toArray, List.set_cons_zero, List.set_cons_succ]
        refine pt_q (v := ?_) rfl (by rfl) ?_ ?_
        rotate_left
        · intro w' hBw'
          try have p0 := hBw'.cell KW (by omega)
          try have p0 := hBw'.cell KW (by omega)
          first | (go_simp; done) | (go_simp; with_reducible rfl)
        try simp only [Act.put, List.getElem_toArray, List.getElem_cons_zero, List.getElem_cons_succ, List.setIfInBounds_toArray, List.set_cons_zero, List.set_cons_succ]
        refine pt_done ?_
        have V9 := V8.up hb10
        go_wp2
        go_roundw
        case rel => exact ⟨k + 1, _, _, _, by omega, by go_num, V9, HT1.out, HL1.out, (by have := hb10.size; have := hb8.size; omega)⟩
        case measure => simp [intOf]; omega
      · refine pt_step rfl (by rfl) (fun K hK => ?_)
        go_simp
        refine hK.out _ _ (But.alloc _ _) ?_
        clear hK K
        try simp only [Act.put, List.getElem_toArray, List.getElem_cons_zero, List.getElem_cons_succ, List.setIfInBounds_toArray, List.set_cons_zero, List.set_cons_succ]
        have hbE := below_alloc Wd (.cells #[.slice none 0 0] 40)
        have r2 := RowAt.new Wd #[.slice none 0 0] 40
        have hzE := hbE.size
        refine pt_c ?_
        refine pt_step rfl (by rfl) (fun K hK => ?_)
        go_simp
        refine (rfTell_c L _ L.length m1 _ (V2.sl.up hbE) hL6).mono ?_
        rintro en w3 ⟨u3, rfl, hsl3, hb3⟩
        refine hK.out _ _ (But.of_below hb3) ?_
        clear hK K
        try simp only [Act.put, List.getElem_toArray, List.getElem_cons_zero, List.getElem_cons_succ, List.setIfInBounds_toArray, List.set_cons_zero, List.set_cons_succ]
        obtain ⟨x1, x2, rfl⟩ := hsl3.len
        have r4 := r2.below hb3
        have hz3 := hb3.size
        refine pt_q (v := ?_) rfl (by rfl) ?_ ?_
        rotate_left
        · intro w' hBw'
          try have p0 := hBw'.cell KW (by omega)
          first | (go_simp; done) | (go_simp; with_reducible rfl)
        try simp only [Act.put, List.getElem_toArray, List.getElem_cons_zero, List.getElem_cons_succ, List.setIfInBounds_toArray, List.set_cons_zero, List.set_cons_succ]
        refine pt_q (v := ?_) rfl (by rfl) ?_ ?_
        rotate_left
        · intro w' hBw'
          try have p0 := hBw'.cell KW (by omega)
          first | (go_simp; done) | (go_simp; with_reducible rfl)
        try simp only [Act.put, List.getElem_toArray, List.getElem_cons_zero, List.getElem_cons_succ, List.setIfInBounds_toArray, List.set_cons_zero, List.set_cons_succ]
        refine pt_q (v := ?_) rfl (by rfl) ?_ ?_
        rotate_left
        · intro w' hBw'
          try have p0 := hBw'.cell KW (by omega)
          first | (go_simp; done) | (go_simp; with_reducible rfl)
        try simp only [Act.put, List.getElem_toArray, List.getElem_cons_zero, List.getElem_cons_succ, List.setIfInBounds_toArray, List.set_cons_zero, List.set_cons_succ]
        refine pt_c ?_
        refine pt_put_row rfl (by rfl) 40 _ _ rfl Wd.heap.size [.slice x1 (rtF L m1).length x2] rfl rfl r4 rfl (by kernel_rfl) rfl (by show wr.heap.size ≤ _; omega) (fun wA hRA hbA => ?_)
        try simp only [Act.put, List.getElem_toArray, List.getElem_cons_zero, List.getElem_cons_succ, List.setIfInBounds_toArray, List.set_cons_zero, List.set_cons_succ]
        refine pt_q (v := ?_) rfl (by rfl) ?_ ?_
        rotate_left
        · intro w' hBw'
          try have p0 := hBw'.cell KW (by omega)
          first | (go_simp; done) | (go_simp; with_reducible rfl)
        try simp only [Act.put, List.getElem_toArray, List.getElem_cons_zero, List.getElem_cons_succ, List.setIfInBounds_toArray, List.set_cons_zero, List.set_cons_succ]
        have hbN : Below Wd.heap.size Wd wA := (below_up hbE hb3).trans (hbA.below (fun q e => by rw [e]; exact Nat.le_refl _) (below_up hbE hb3).size)
        have V5 := V2.up hbN
        have hsl5 := hsl3.past4 r4 (by decide) hbA
        have HB5 := Lib.hid (show Below wr.heap.size wr wA from below_up hBd hbN)
        refine pt_done ?_
        have hrA := rangeAt_up HB5.out hr
        have rAc := hRA.cell (i := 0) (v := .slice x1 (rtF L m1).length x2) rfl
        have kwA := V5.var.cell (i := 0) rfl
        have kwF := V5.var.fz 0
        have hzA := HB5.out.size
        have V5b := Lib.hid (show RowAt (wA.setCell ⟨WB, 0, none⟩ (.slice x1 (rtF L m1).length x2)) WB #[.slice x1 (rtF L m1).length x2] 40 from V5.var.set 0 _)
        have hbS : But (· = WB) wA (wA.setCell ⟨WB, 0, none⟩ (.slice x1 (rtF L m1).length x2)) := But.setCell _ _ _ (.inl rfl)
        have hslS := hsl5.past4 V5.var (by simp) hbS
        have hrS : (wA.setCell ⟨WB, 0, none⟩ (.slice x1 (rtF L m1).length x2)).rangeAt b (off + k * 4) (mbC m1) := fun j v hj => hbS.cell (hrA j v hj) (by omega)
        have hrollS := V5.roll.but hbS (by omega) (by omega)
        have hBS := V5.below.trans (hbS.below (fun q e => by rw [e]; omega) V5.below.size)
        go_wp2
        obtain ⟨wB, hwB⟩ : ∃ W, wA.setCell ⟨WB, 0, none⟩ (.slice x1 (rtF L m1).length x2) = W := ⟨_, rfl⟩
        have hv6 := V5b.out
        simp only [hwB] at hv6 hslS hrS hrollS hBS ⊢
        have hzB : wA.heap.size ≤ wB.heap.size := by rw [← hwB]; simp
        clear hbS hwB V5b hrA
        refine wp_region_pt (fun i => i = w.heap.size ∨ wB.heap.size ≤ i) (.q 0 (.q 1 (.q 2 (.q 3 (.q 4 (.q 7 (.c 5 (.c 6 (.q 8 (.q 9 (.q 10 (.q 11 (.q 12 (.q 13 (.q 14 (.q 15 (.q 16 (.q 17 (.c 18 (.q 19 (.q 20 .done))))))))))))))))))))) (by kernel_rfl) (by kernel_rfl) (by kernel_rfl) (by decide) (fun _ _ d _ _ h => by cases d <;> exact h) (fun Wd hBd => ?_)
        try simp only [Act.put, List.getElem_toArray, List.getElem_cons_zero, List.getElem_cons_succ, List.setIfInBounds_toArray, List.set_cons_zero, List.set_cons_succ]
        have hroll7 := hrollS.below hBd
        have hB7 := below_up hBS hBd
        have hszd2 := hBd.size
        have hrd := rangeAt_up hBd hrS
        have hv7 := hv6.below hBd
        have hsl7 := hslS.up hBd
        have KW := hv7.cell (i := 0) (v := .slice x1 (rtF L m1).length x2) rfl
        refine pt_q (v := ?_) rfl (by rfl) ?_ ?_
        rotate_left
        · intro w' hBw'
          try have p0 := hBw'.cell KW (by omega)
          try have p0 := hBw'.cell KW (by omega)
          first | (go_simp; done) | (go_simp; with_reducible rfl)
        try simp only [Act.put, List.getElem_toArray, List.getElem_cons_zero, List.getElem_cons_succ, List.setIfInBounds_toArray, List.set_cons_zero, List.set_cons_succ]
        refine pt_q (v := ?_) rfl (by rfl) ?_ ?_
        rotate_left
        · intro w' hBw'
          try have p0 := hBw'.cell KW (by omega)
          try have p0 := hBw'.cell KW (by omega)
          first | (go_simp; done) | (go_simp; with_reducible rfl)
        try simp only [Act.put, List.getElem_toArray, List.getElem_cons_zero, List.getElem_cons_succ, List.setIfInBounds_toArray, List.set_cons_zero, List.set_cons_succ]
        refine pt_q (v := ?_) rfl (by rfl) ?_ ?_
        rotate_left
        · intro w' hBw'
          try have p0 := hBw'.cell KW (by omega)
          try have p0 := hBw'.cell KW (by omega)
          first | (go_simp; done) | (go_simp; with_reducible rfl)
        try simp only [Act.put, List.getElem_toArray, List.getElem_cons_zero, List.getElem_cons_succ, List.setIfInBounds_toArray, List.set_cons_zero, List.set_cons_succ]
        refine pt_q (v := ?_) rfl (by rfl) ?_ ?_
        rotate_left
        · intro w' hBw'
          try have p0 := hBw'.cell KW (by omega)
          try have p0 := hBw'.cell KW (by omega)
          first | (go_simp; done) | (go_simp; with_reducible rfl)
        try simp only [Act.put, List.getElem_toArray, List.getElem_cons_zero, List.getElem_cons_succ, List.setIfInBounds_toArray, List.set_cons_zero, List.set_cons_succ]
        refine pt_load rfl (by rfl) 24 (.tmp 32) rfl b (off + k * 4) rfl (mbC m1) _ hrd (by omega) Try.underlying24 rfl (by kernel_rfl) ?_
        try simp only [Act.put, List.getElem_toArray, List.getElem_cons_zero, List.getElem_cons_succ, List.setIfInBounds_toArray, List.set_cons_zero, List.set_cons_succ]
        refine pt_q (v := ?_) rfl (by rfl) ?_ ?_
        rotate_left
        · intro w' hBw'
          try have p0 := hBw'.cell KW (by omega)
          try have p0 := hBw'.cell KW (by omega)
          first | (go_simp; done) | (go_simp; with_reducible rfl)
        try simp only [Act.put, List.getElem_toArray, List.getElem_cons_zero, List.getElem_cons_succ, List.setIfInBounds_toArray, List.set_cons_zero, List.set_cons_succ]
        refine pt_c ?_
        refine pt_step rfl (by rfl) (fun K hK => ?_)
        go_simp
        refine (mTell_c m1 hwf _ hroll7).mono ?_
        rw [HEQ.out]
        rintro en w8 ⟨rfl, hr8, hb8⟩
        refine hK.out _ _ (hb8.mono fun q _ e => .inl e) ?_
        clear hK K
        try simp only [Act.put, List.getElem_toArray, List.getElem_cons_zero, List.getElem_cons_succ, List.setIfInBounds_toArray, List.set_cons_zero, List.set_cons_succ]
        have V8 := PlI.told hroll7 V.srt hB7 (by omega) hv7 hsl7 hr8 hb8
        have hrd8 : w8.rangeAt b (off + k * 4) (mbC m1) := fun j v hj => hb8.cell (hrd j v hj) (by omega)
        replace KW := V8.var.cell (i := 0) (v := .slice x1 (rtF L m1).length x2) rfl
        refine pt_c ?_
        refine pt_step rfl (by rfl) (fun K hK => ?_)
        go_simp
        refine (num_cc _ _).mono ?_
        rintro en w9 ⟨rfl, rfl⟩
        refine hK.out _ _ (But.refl _ _) ?_
        clear hK K
        try simp only [Act.put, List.getElem_toArray, List.getElem_cons_zero, List.getElem_cons_succ, List.setIfInBounds_toArray, List.set_cons_zero, List.set_cons_succ]
        refine pt_q (v := ?_) rfl (by rfl) ?_ ?_
        rotate_left
        · intro w' hBw'
          try have p0 := hBw'.cell KW (by omega)
          try have p0 := hBw'.cell KW (by omega)
          first | (go_simp; done) | (go_simp; with_reducible rfl)
        try simp only [Act.put, List.getElem_toArray, List.getElem_cons_zero, List.getElem_cons_succ, List.setIfInBounds_toArray, List.set_cons_zero, List.set_cons_succ]
        refine pt_q (v := ?_) rfl (by rfl) ?_ ?_
        rotate_left
        · intro w' hBw'
          try have p0 := hBw'.cell KW (by omega)
          try have p0 := hBw'.cell KW (by omega)
          first | (go_simp; done) | (go_simp; with_reducible rfl)
        try simp only [Act.put, List.getElem_toArray, List.getElem_cons_zero, List.getElem_cons_succ, List.setIfInBounds_toArray, List.set_cons_zero, List.set_cons_succ]
        refine pt_q (v := ?_) rfl (by rfl) ?_ ?_
        rotate_left
        · intro w' hBw'
          try have p0 := hBw'.cell KW (by omega)
          try have p0 := hBw'.cell KW (by omega)
          first | (go_simp; done) | (go_simp; with_reducible rfl)
        try simp only [Act.put, List.getElem_toArray, List.getElem_cons_zero, List.getElem_cons_succ, List.setIfInBounds_toArray, List.set_cons_zero, List.set_cons_succ]
        refine pt_q (v := ?_) rfl (by rfl) ?_ ?_
        rotate_left
        · intro w' hBw'
          try have p0 := hBw'.cell KW (by omega)
          try have p0 := hBw'.cell KW (by omega)
          first | (go_simp; done) | (go_simp; with_reducible rfl)
        try simp only [Act.put, List.getElem_toArray, List.getElem_cons_zero, List.getElem_cons_succ, List.setIfInBounds_toArray, List.set_cons_zero, List.set_cons_succ]
        refine pt_q (v := ?_) rfl (by rfl) ?_ ?_
        rotate_left
        · intro w' hBw'
          try have p0 := hBw'.cell KW (by omega)
          try have p0 := hBw'.cell KW (by omega)
          first | (go_simp; done) | (go_simp; with_reducible rfl)
        try simp only [Act.put, List.getElem_toArray, List.getElem_cons_zero, List.getElem_cons_succ, List.setIfInBounds_toArray, List.set_cons_zero, List.set_cons_succ]
        refine pt_q (v := ?_) rfl (by rfl) ?_ ?_
        rotate_left
        · intro w' hBw'
          try have p0 := hBw'.cell KW (by omega)
          try have p0 := hBw'.cell KW (by omega)
          first | (go_simp; done) | (go_simp; with_reducible rfl)
        try simp only [Act.put, List.getElem_toArray, List.getElem_cons_zero, List.getElem_cons_succ, List.setIfInBounds_toArray, List.set_cons_zero, List.set_cons_succ]
        refine pt_q (v := ?_) rfl (by rfl) ?_ ?_
        rotate_left
        · intro w' hBw'
          try have p0 := hBw'.cell KW (by omega)
          try have p0 := hBw'.cell KW (by omega)
          first | (go_simp; done) | (go_simp; with_reducible rfl)
        try simp only [Act.put, List.getElem_toArray, List.getElem_cons_zero, List.getElem_cons_succ, List.setIfInBounds_toArray, List.set_cons_zero, List.set_cons_succ]
        refine pt_load rfl (by rfl) 24 (.tmp 43) rfl b (off + k * 4) rfl (mbC m1) _ hrd8 (by omega) Try.underlying24 rfl (by kernel_rfl) ?_
        try simp only [Act.put, List.getElem_toArray, List.getElem_cons_zero, List.getElem_cons_succ, List.setIfInBounds_toArray, List.set_cons_zero, List.set_cons_succ]
        refine pt_q (v := ?_) rfl (by rfl) ?_ ?_
        rotate_left
        · intro w' hBw'
          try have p0 := hBw'.cell KW (by omega)
          try have p0 := hBw'.cell KW (by omega)
          first | (go_simp; done) | (go_simp; with_reducible rfl)
        try simp only [Act.put, List.getElem_toArray, List.getElem_cons_zero, List.getElem_cons_succ, List.setIfInBounds_toArray, List.set_cons_zero, List.set_cons_succ]
        refine pt_q (v := ?_) rfl (by rfl) ?_ ?_
        rotate_left
        · intro w' hBw'
          try have p0 := hBw'.cell KW (by omega)
          try have p0 := hBw'.cell KW (by omega)
          first | (go_simp; done) | (go_simp; with_reducible rfl)
        try simp only [Act.put, List.getElem_toArray, List.getElem_cons_zero, List.getElem_cons_succ, List.setIfInBounds_toArray, List.set_cons_zero, List.set_cons_succ]
        refine pt_c ?_
        refine pt_step rfl (by rfl) (fun K hK => ?_)
        go_simp
        refine (is_c _ m1 _ V8.roll V8.srt V8.sl hwf (by have := HL1.out; omega)).mono ?_
        rintro en w10 ⟨rfl, hb10⟩
        refine hK.out _ _ (But.of_below hb10) ?_
        clear hK K
        try simp only [Act.put, List.getElem_toArray, List.getElem_cons_zero, List.getElem_cons_succ, List.setIfInBounds_toArray, List.set_cons_zero, List.set_cons_succ]
        refine pt_q (v := ?_) rfl (by rfl) ?_ ?_
        rotate_left
        · intro w' hBw'
          try have p0 := hBw'.cell KW (by omega)
          try have p0 := hBw'.cell KW (by omega)
          first | (go_simp; done) | (go_simp; with_reducible rfl)
        try simp only [Act.put, List.getElem_toArray, List.getElem_cons_zero, List.getElem_cons_succ, List.setIfInBounds_toArray, List.set_cons_zero, List.set_cons_succ]
        refine pt_q (v := ?_) rfl (by rfl) ?_ ?_
        rotate_left
        · intro w' hBw'
          try have p0 := hBw'.cell KW (by omega)
          try have p0 := hBw'.cell KW (by omega)
          first | (go_simp; done) | (go_simp; with_reducible rfl)
        try simp only [Act.put, List.getElem_toArray, List.getElem_cons_zero, List.getElem_cons_succ, List.setIfInBounds_toArray, List.set_cons_zero, List.set_cons_succ]
        refine pt_done ?_
        have V9 := V8.up hb10
        go_wp2
        go_roundw
        case rel => exact ⟨k + 1, _, _, _, by omega, by go_num, V9, HT1.out, HL1.out, (by have := hb10.size; have := hb8.size; omega)⟩
        case measure => simp [intOf]; omega
    · obtain rfl : k = n := by omega
      go_wp2_with (first
        | (go_at_call 20; refine (none_c _).mono ?_; rintro en w5 ⟨rfl, hb5⟩)
        | (go_at_call 10; refine (works_c _).mono ?_; rintro en w6 ⟨rfl, hb6⟩))
      go_ret
      exact ⟨rfl, below_up (below_up V.below hb5) hb6⟩
theorem memberPlays_law {H : Type} {enc : TypeId × Value → H} {w : World} {base : Nat} {spare : Nat → Bool} {held : Bool} {v : Value} {n : Nat} {xs : List Value} (hs : Sl w 4 v n xs)
    (hl : ∀ i, i < n → ∀ (j : Nat) (U : TypeId), [22, 22, 22, 4][j]? = some U → ∃ c, xs[i * 4 + j]? = some c ∧ Leaf enc Try.prog w base spare held U c) :
    Calls Try.prog 6 #[v] w (Ret (.bool true) w) := by
  by_cases hbig : 60 < n
  · exact memberPlays_big v n w xs hs hbig
  · obtain ⟨l, rfl, hwf⟩ := mbs_of hs hl
    exact memberPlays_c l v n w hs (by omega) hwf
end Go.Proofs.Yteakpppabgbpeaa
