/-
  The reference: Crash.
-/
import Derived.Test.YtekpjbablcoahaaDiskR
namespace Go.Proofs.Ytekpjbablcoahaa
open Go.RowKit Go.Maps Dk
set_option linter.unusedSimpArgs false
set_option linter.unusedVariables false

/-- The first k writes laid, where kept. -/
def Dk.crashR (L : List Sec) (W : List (Int × Sec)) (keep : List Bool) : Nat → List Sec
  | 0 => L
  | k + 1 => if keep.getD k false = true then (crashR L W keep k).set (ptAt W k).1.toNat (ptAt W k).2 else crashR L W keep k
theorem Dk.crashR_len (L : List Sec) (W : List (Int × Sec)) (keep : List Bool) : ∀ k, (crashR L W keep k).length = L.length
  | 0 => rfl
  | k + 1 => by
    rw [crashR]
    split
    · rw [List.length_set]; exact crashR_len L W keep k
    · exact crashR_len L W keep k
set_option maxHeartbeats 2000000 in
set_option maxRecDepth 100000 in
theorem rCrash_c (r : RDisk) (hL : r.L.length ≤ 5000) (hk : ∀ p ∈ r.W, 0 ≤ p.1 ∧ p.1 < (r.L.length : Int)) (kv : Value) (kn : Nat) (keep : List Bool) (v : Value) (w : World) (h : RefAt w v r) (hkv : Sl w 1 kv kn (keep.map Value.bool)) :
    Calls Try.prog 46 #[v, kv] w (GivesR ⟨crashR r.L r.W keep r.W.length, [], -1⟩ w) := by
  obtain ⟨lv, wv, rfl, hl, hw⟩ := h.ex
  obtain ⟨la, lc, rfl⟩ := hl.len
  obtain ⟨wa, wc, rfl⟩ := hw.len
  have hwn := hw.n_max
  have hkn := hkv.n_max
  have hkl : keep.length = kn := by have := hkv.1; simpa using this
  obtain ⟨ka, kc, rfl⟩ := hkv.len
  have HKL := Lib.hid hkl
  clear hkl
  have HK := Lib.hid hk
  clear hk
  go_enter Try.func46, Try.ntmps46
  go_wp2
  have hb2 : Below w.heap.size w ((w.alloc (.cells #[.slice la r.L.length lc, .slice wa r.W.length wc, .int .i64 r.armed] 47)).alloc (.cells #[.slice none 0 0, .slice none 0 0, .int .i64 0] 47)) := (below_alloc w _).alloc (by simp) _
  have hI0 : RBox ((w.alloc (.cells #[.slice la r.L.length lc, .slice wa r.W.length wc, .int .i64 r.armed] 47)).alloc (.cells #[.slice none 0 0, .slice none 0 0, .int .i64 0] 47)) w.heap.size ⟨crashR r.L r.W keep 0, r.W, r.armed⟩ := ⟨_, _, (RowAt.new w _ _).alloc _, hl.up hb2, hw.up hb2⟩
  have hR0 : RowAt ((w.alloc (.cells #[.slice la r.L.length lc, .slice wa r.W.length wc, .int .i64 r.armed] 47)).alloc (.cells #[.slice none 0 0, .slice none 0 0, .int .i64 0] 47)) (w.heap.size + 1) #[.slice none 0 0, .slice none 0 0, .int .i64 0] 47 := by
    have := RowAt.new (w.alloc (.cells #[.slice la r.L.length lc, .slice wa r.W.length wc, .int .i64 r.armed] 47)) #[.slice none 0 0, .slice none 0 0, .int .i64 0] 47
    rwa [World.size_alloc] at this
  go_loopw [5] (fun i wr => ∃ k : Nat, k ≤ r.W.length ∧ i = .int .i64 k ∧ RBox wr w.heap.size ⟨crashR r.L r.W keep k, r.W, r.armed⟩ ∧ RowAt wr (w.heap.size + 1) #[.slice none 0 0, .slice none 0 0, .int .i64 0] 47 ∧ Below w.heap.size w wr) (fun i _ => r.W.length - (intOf i).toNat)
  case atStart => exact ⟨0, Nat.zero_le _, rfl, hI0, hR0, hb2⟩
  case round =>
    obtain ⟨k, hk, rfl, hI, hR, hB⟩ := hrel
    clear hI0 hR0 hb2
    by_cases hlt : k < r.W.length
    · obtain ⟨l0, w0, RX0, hl0, hw0⟩ := hI.ex
      obtain ⟨la2, lc2, rfl⟩ := hl0.len
      obtain ⟨wa2, wc2, rfl⟩ := hw0.len
      obtain ⟨b, off, rfl, hr⟩ := hw0.rec_at (cells := rpC) (sz := 2) (fun _ => rfl) hlt hlt
      have hkk := HK.out _ (List.getElem_mem hlt)
      have hpt := ptAt_get hlt
      generalize r.W[k] = p at *
      have HPT := Lib.hid hpt
      clear hpt
      obtain ⟨pz, ps⟩ := p
      obtain ⟨pk, rfl⟩ : ∃ q : Nat, pz = (q : Int) := ⟨pz.toNat, by have := hkk.1; simp only at this; omega⟩
      have c0 := hr 0 (.int .i64 (pk : Int)) rfl
      have c1 := hr 1 (strV ps) rfl
      simp only [Nat.add_zero] at c0
      obtain ⟨L, hLL⟩ : ∃ L, crashR r.L r.W keep k = L := ⟨_, rfl⟩
      have hLn : L.length = r.L.length := by rw [← hLL, crashR_len]
      rw [hLL] at hl0
      have hpk : pk < L.length := by rw [hLn]; have := hkk.2; simp only at this; omega
      have hL5 : L.length ≤ 5000 := by rw [hLn]; exact hL
      have hRf : RefAt wr (.agg #[.slice la2 L.length lc2, .slice (some ⟨b, off, none⟩) r.W.length wc2, .int .i64 r.armed]) ⟨L, r.W, r.armed⟩ := ⟨_, _, rfl, hl0, hw0⟩
      have hki : (k : Int) < (r.W.length : Int) := by omega
      have e0r := RX0.cell (i := 1) rfl
      have HLN := Lib.hid hLn
      have HLL := Lib.hid hLL
      have RXr := Lib.hid RX0
      have HB := Lib.hid hB
      have HR := Lib.hid hR
      have HX : RowAt wr w.heap.size #[.slice la2 L.length lc2, .slice (some ⟨b, off, none⟩) r.W.length wc2, .int .i64 r.armed] 47 := by
        have := RXr.out
        rwa [hLL] at this
      have f1 := RX0.cell (i := 1) rfl
      by_cases hkk2 : k < kn
      · obtain ⟨kb, ko, rfl, hkc⟩ := (hkv.up hB).cellAt (k := k) (by omega) (by omega)
        have hkl' : k < keep.length := by rw [HKL.out]; exact hkk2
        rw [List.getElem?_map, List.getElem?_eq_getElem hkl'] at hkc
        have hgd : keep.getD k false = keep[k] := by rw [List.getD_eq_getElem?_getD, List.getElem?_eq_getElem hkl']; rfl
        generalize keep[k] = kb1 at *
        have hki2 : (k : Int) < (kn : Int) := by omega
        simp only [Option.map_some] at hkc
        cases kb1 with
        | true =>
          have HCK := Lib.hid (show crashR r.L r.W keep (k + 1) = L.set pk ps by rw [crashR, if_pos hgd, HPT.out, HLL.out]; rfl)
          clear hgd
          clear RXr hLn hLL hI hB hR hr hl0 hw0 RX0 e0r
          have f1 := HX.cell (i := 1) rfl
          go_wp2
          refine wp_region_pz (fun _ => False) 14 (.q 0 (.q 1 (.q 2 (.q 3 (.q 4 (.q 5 (.q 6 (.q 7 (.q 8 (.q 9 (.q 10 (.q 11 (.q 12 (.c 13 .done)))))))))))))) (by kernel_rfl) (by kernel_rfl) (by kernel_rfl) (by decide) (fun _ _ d _ _ h => by cases d <;> exact h) (fun Wd hBd => ?_)
          try simp only [Act.put, List.getElem_toArray, List.getElem_cons_zero, List.getElem_cons_succ, List.setIfInBounds_toArray, List.set_cons_zero, List.set_cons_succ]
          have RX := HX.below hBd
          have e0 := RX.cell (i := 0) rfl
          have e1 := RX.cell (i := 1) rfl
          have e2 := RX.cell (i := 2) rfl
          have d0 := cell_up hBd c0
          have d1 := cell_up hBd c1
          have hlay := rLay_c pk ps ⟨L, r.W, r.armed⟩ hpk hL5 _ Wd (hRf.up hBd)
          refine pt_load rfl (by rfl) 47 (.tmp 2) rfl w.heap.size 0 rfl [.slice la2 L.length lc2, .slice (some ⟨b, off, none⟩) r.W.length wc2, .int .i64 r.armed] _ (RowAt.range RX) (fun h => h) Try.underlying47 rfl (by kernel_rfl) ?_
          try simp only [Act.put, List.getElem_toArray, List.getElem_cons_zero, List.getElem_cons_succ, List.setIfInBounds_toArray, List.set_cons_zero, List.set_cons_succ]
          refine pt_q (v := ?_) rfl (by rfl) ?_ ?_
          rotate_left
          · intro w' hBw'
            have p0 := hBw'.cell e0 (fun h => h)
            have p1 := hBw'.cell e1 (fun h => h)
            have p2 := hBw'.cell e2 (fun h => h)
            have p3 := hBw'.cell d0 (fun h => h)
            have p4 := hBw'.cell d1 (fun h => h)
            first | (go_simp; done) | (go_simp; with_reducible rfl)
          try simp only [Act.put, List.getElem_toArray, List.getElem_cons_zero, List.getElem_cons_succ, List.setIfInBounds_toArray, List.set_cons_zero, List.set_cons_succ]
          refine pt_q (v := ?_) rfl (by rfl) ?_ ?_
          rotate_left
          · intro w' hBw'
            have p0 := hBw'.cell e0 (fun h => h)
            have p1 := hBw'.cell e1 (fun h => h)
            have p2 := hBw'.cell e2 (fun h => h)
            have p3 := hBw'.cell d0 (fun h => h)
            have p4 := hBw'.cell d1 (fun h => h)
            first | (go_simp; done) | (go_simp; with_reducible rfl)
          try simp only [Act.put, List.getElem_toArray, List.getElem_cons_zero, List.getElem_cons_succ, List.setIfInBounds_toArray, List.set_cons_zero, List.set_cons_succ]
          refine pt_q (v := ?_) rfl (by rfl) ?_ ?_
          rotate_left
          · intro w' hBw'
            have p0 := hBw'.cell e0 (fun h => h)
            have p1 := hBw'.cell e1 (fun h => h)
            have p2 := hBw'.cell e2 (fun h => h)
            have p3 := hBw'.cell d0 (fun h => h)
            have p4 := hBw'.cell d1 (fun h => h)
            first | (go_simp; done) | (go_simp; with_reducible rfl)
          try simp only [Act.put, List.getElem_toArray, List.getElem_cons_zero, List.getElem_cons_succ, List.setIfInBounds_toArray, List.set_cons_zero, List.set_cons_succ]
          refine pt_q (v := ?_) rfl (by rfl) ?_ ?_
          rotate_left
          · intro w' hBw'
            have p0 := hBw'.cell e0 (fun h => h)
            have p1 := hBw'.cell e1 (fun h => h)
            have p2 := hBw'.cell e2 (fun h => h)
            have p3 := hBw'.cell d0 (fun h => h)
            have p4 := hBw'.cell d1 (fun h => h)
            first | (go_simp; done) | (go_simp; with_reducible rfl)
          try simp only [Act.put, List.getElem_toArray, List.getElem_cons_zero, List.getElem_cons_succ, List.setIfInBounds_toArray, List.set_cons_zero, List.set_cons_succ]
          refine pt_q (v := ?_) rfl (by rfl) ?_ ?_
          rotate_left
          · intro w' hBw'
            have p0 := hBw'.cell e0 (fun h => h)
            have p1 := hBw'.cell e1 (fun h => h)
            have p2 := hBw'.cell e2 (fun h => h)
            have p3 := hBw'.cell d0 (fun h => h)
            have p4 := hBw'.cell d1 (fun h => h)
            first | (go_simp; done) | (go_simp; with_reducible rfl)
          try simp only [Act.put, List.getElem_toArray, List.getElem_cons_zero, List.getElem_cons_succ, List.setIfInBounds_toArray, List.set_cons_zero, List.set_cons_succ]
          refine pt_q (v := ?_) rfl (by rfl) ?_ ?_
          rotate_left
          · intro w' hBw'
            have p0 := hBw'.cell e0 (fun h => h)
            have p1 := hBw'.cell e1 (fun h => h)
            have p2 := hBw'.cell e2 (fun h => h)
            have p3 := hBw'.cell d0 (fun h => h)
            have p4 := hBw'.cell d1 (fun h => h)
            first | (go_simp; done) | (go_simp; with_reducible rfl)
          try simp only [Act.put, List.getElem_toArray, List.getElem_cons_zero, List.getElem_cons_succ, List.setIfInBounds_toArray, List.set_cons_zero, List.set_cons_succ]
          refine pt_q (v := ?_) rfl (by rfl) ?_ ?_
          rotate_left
          · intro w' hBw'
            have p0 := hBw'.cell e0 (fun h => h)
            have p1 := hBw'.cell e1 (fun h => h)
            have p2 := hBw'.cell e2 (fun h => h)
            have p3 := hBw'.cell d0 (fun h => h)
            have p4 := hBw'.cell d1 (fun h => h)
            first | (go_simp; done) | (go_simp; with_reducible rfl)
          try simp only [Act.put, List.getElem_toArray, List.getElem_cons_zero, List.getElem_cons_succ, List.setIfInBounds_toArray, List.set_cons_zero, List.set_cons_succ]
          refine pt_q (v := ?_) rfl (by rfl) ?_ ?_
          rotate_left
          · intro w' hBw'
            have p0 := hBw'.cell e0 (fun h => h)
            have p1 := hBw'.cell e1 (fun h => h)
            have p2 := hBw'.cell e2 (fun h => h)
            have p3 := hBw'.cell d0 (fun h => h)
            have p4 := hBw'.cell d1 (fun h => h)
            first | (go_simp; done) | (go_simp; with_reducible rfl)
          try simp only [Act.put, List.getElem_toArray, List.getElem_cons_zero, List.getElem_cons_succ, List.setIfInBounds_toArray, List.set_cons_zero, List.set_cons_succ]
          refine pt_q (v := ?_) rfl (by rfl) ?_ ?_
          rotate_left
          · intro w' hBw'
            have p0 := hBw'.cell e0 (fun h => h)
            have p1 := hBw'.cell e1 (fun h => h)
            have p2 := hBw'.cell e2 (fun h => h)
            have p3 := hBw'.cell d0 (fun h => h)
            have p4 := hBw'.cell d1 (fun h => h)
            first | (go_simp; done) | (go_simp; with_reducible rfl)
          try simp only [Act.put, List.getElem_toArray, List.getElem_cons_zero, List.getElem_cons_succ, List.setIfInBounds_toArray, List.set_cons_zero, List.set_cons_succ]
          refine pt_q (v := ?_) rfl (by rfl) ?_ ?_
          rotate_left
          · intro w' hBw'
            have p0 := hBw'.cell e0 (fun h => h)
            have p1 := hBw'.cell e1 (fun h => h)
            have p2 := hBw'.cell e2 (fun h => h)
            have p3 := hBw'.cell d0 (fun h => h)
            have p4 := hBw'.cell d1 (fun h => h)
            first | (go_simp; done) | (go_simp; with_reducible rfl)
          try simp only [Act.put, List.getElem_toArray, List.getElem_cons_zero, List.getElem_cons_succ, List.setIfInBounds_toArray, List.set_cons_zero, List.set_cons_succ]
          refine pt_q (v := ?_) rfl (by rfl) ?_ ?_
          rotate_left
          · intro w' hBw'
            have p0 := hBw'.cell e0 (fun h => h)
            have p1 := hBw'.cell e1 (fun h => h)
            have p2 := hBw'.cell e2 (fun h => h)
            have p3 := hBw'.cell d0 (fun h => h)
            have p4 := hBw'.cell d1 (fun h => h)
            first | (go_simp; done) | (go_simp; with_reducible rfl)
          try simp only [Act.put, List.getElem_toArray, List.getElem_cons_zero, List.getElem_cons_succ, List.setIfInBounds_toArray, List.set_cons_zero, List.set_cons_succ]
          refine pt_q (v := ?_) rfl (by rfl) ?_ ?_
          rotate_left
          · intro w' hBw'
            have p0 := hBw'.cell e0 (fun h => h)
            have p1 := hBw'.cell e1 (fun h => h)
            have p2 := hBw'.cell e2 (fun h => h)
            have p3 := hBw'.cell d0 (fun h => h)
            have p4 := hBw'.cell d1 (fun h => h)
            first | (go_simp; done) | (go_simp; with_reducible rfl)
          try simp only [Act.put, List.getElem_toArray, List.getElem_cons_zero, List.getElem_cons_succ, List.setIfInBounds_toArray, List.set_cons_zero, List.set_cons_succ]
          refine pt_c ?_
          refine pt_step rfl (by rfl) (fun K hK => ?_)
          go_simp
          refine hlay.mono ?_
          rintro en w2 ⟨v2, rfl, hr2, hb2⟩
          have hRA := Lib.hid hr2
          obtain ⟨l2, m2, rfl, hl2, hm2⟩ := hr2.ex
          obtain ⟨x2, y2, rfl⟩ := hl2.len
          obtain ⟨x3, y3, rfl⟩ := hm2.len
          have RX2 := RX.below hb2
          refine hK.out _ _ (But.of_below hb2) ?_
          clear hK K
          try simp only [Act.put, List.getElem_toArray, List.getElem_cons_zero, List.getElem_cons_succ, List.setIfInBounds_toArray, List.set_cons_zero, List.set_cons_succ]
          refine pz_put_row rfl (by rfl) 47 (.tmp 2) (.tmp 36) rfl w.heap.size [.slice x2 (L.set pk ps).length y2, .slice x3 r.W.length y3, .int .i64 r.armed] rfl rfl RX2 rfl (by kernel_rfl) rfl (fun w3 h3 hb3 => ?_)
          have hb3' : But (· = w.heap.size) w2 w3 := hb3
          have hN : RBox w3 w.heap.size ⟨crashR r.L r.W keep (k + 1), r.W, r.armed⟩ := by
            rw [HCK.out]
            exact ⟨_, _, h3, hl2.but hb3' ((str_apart hl2 RX2).imp id fun h q hq => h q hq), hm2.but hb3' ((rp_apart hm2 RX2).imp id fun h q hq => h q hq)⟩
          have hR3 : RowAt w3 (w.heap.size + 1) #[.slice none 0 0, .slice none 0 0, .int .i64 0] 47 := by
            have := (HR.out.below hBd).below hb2
            exact (hb3'.same _ this.lt (by omega)).trans this
          have hB2' := below_up HB.out (below_up hBd hb2)
          have HN := Lib.hid (And.intro hN (And.intro hR3 (hB2'.trans (hb3'.below (fun q e => by have e : q = w.heap.size := e; omega) hB2'.size))))
          clear hN hR3 hb3' hb3 h3 hl2 hm2 RX2 hRA hB2'
          go_wp2
          go_roundw
          case rel => exact ⟨k + 1, by omega, by go_num, HN.out.1, HN.out.2.1, HN.out.2.2⟩
          case measure => simp [intOf]; omega
        | false =>
          have HCK := Lib.hid (show crashR r.L r.W keep (k + 1) = L by rw [crashR, if_neg (by rw [hgd]; decide), HLL.out])
          clear hgd
          have HI := Lib.hid hI
          clear RXr hLn hLL hI hB hR hr hl0 hw0 RX0 e0r HX
          go_wp2
          go_roundw
          case rel => exact ⟨k + 1, by omega, by go_num, by rw [HCK.out, ← HLL.out]; exact HI.out, HR.out, HB.out⟩
          case measure => simp [intOf]; omega
      · have HCK := Lib.hid (show crashR r.L r.W keep (k + 1) = L by
          rw [crashR, if_neg, HLL.out]
          rw [List.getD_eq_getElem?_getD, List.getElem?_eq_none (by rw [HKL.out]; omega)]
          simp)
        have hki2 : (kn : Int) ≤ (k : Int) := by omega
        have HI := Lib.hid hI
        clear RXr hLn hLL hI hB hR hr hl0 hw0 RX0 e0r HX
        go_wp2
        go_roundw
        case rel => exact ⟨k + 1, by omega, by go_num, by rw [HCK.out, ← HLL.out]; exact HI.out, HR.out, HB.out⟩
        case measure => simp [intOf]; omega
    · obtain rfl : k = r.W.length := by omega
      obtain ⟨l0, w0, RX0, hl0, hw0⟩ := hI.ex
      obtain ⟨la2, lc2, rfl⟩ := hl0.len
      obtain ⟨wa2, wc2, rfl⟩ := hw0.len
      generalize crashR r.L r.W keep r.W.length = L at *
      have e0 := RX0.cell (i := 0) rfl
      have e1 := RX0.cell (i := 1) rfl
      have e2 := RX0.cell (i := 2) rfl
      have f1 := RX0.fz 1
      have f2 := RX0.fz 2
      have q0 := hR.cell (i := 0) rfl
      have q1 := hR.cell (i := 1) rfl
      have q2 := hR.cell (i := 2) rfl
      have y0 := hR.fz 0
      have y1 := hR.fz 1
      have y2 := hR.fz 2
      have HB := Lib.hid hB
      have HL := Lib.hid hl0
      have HA := Lib.hid (str_apart hl0 RX0)
      have HA2 := Lib.hid (str_apart hl0 hR)
      clear RX0 hR hB hl0 hw0 hI
      go_wp2
      have bF : But (fun i => i = w.heap.size ∨ i = w.heap.size + 1) wr (((((wr.setCell ⟨w.heap.size, 1, none⟩ (.slice none 0 0)).setCell ⟨w.heap.size, 2, none⟩ (.int .i64 (-1))).setCell ⟨w.heap.size + 1, 0, none⟩ (.slice la2 L.length lc2)).setCell ⟨w.heap.size + 1, 1, none⟩ (.slice none 0 0)).setCell ⟨w.heap.size + 1, 2, none⟩ (.int .i64 (-1))) :=
        ((((But.setCell (O := fun i => i = w.heap.size ∨ i = w.heap.size + 1) _ ⟨w.heap.size, 1, none⟩ _ (.inl (.inl rfl))).trans (But.setCell (O := fun i => i = w.heap.size ∨ i = w.heap.size + 1) _ ⟨w.heap.size, 2, none⟩ _ (.inl (.inl rfl)))).trans (But.setCell (O := fun i => i = w.heap.size ∨ i = w.heap.size + 1) _ ⟨w.heap.size + 1, 0, none⟩ _ (.inl (.inr rfl)))).trans (But.setCell (O := fun i => i = w.heap.size ∨ i = w.heap.size + 1) _ ⟨w.heap.size + 1, 1, none⟩ _ (.inl (.inr rfl)))).trans (But.setCell (O := fun i => i = w.heap.size ∨ i = w.heap.size + 1) _ ⟨w.heap.size + 1, 2, none⟩ _ (.inl (.inr rfl)))
      have lF := HL.out.but bF (by
        rcases HA.out with h1 | h1
        · exact .inl h1
        · rcases HA2.out with h2 | h2
          · exact .inl h2
          · exact .inr fun q hq e => e.elim (h1 q hq) (h2 q hq))
      have HLF := Lib.hid lF
      clear lF
      refine bodyPost_ret (v := .agg #[.slice la2 L.length lc2, .slice none 0 0, .int .i64 (-1)]) (by simp [results, Try.results46, go_sem, e0, e1, e2, q0, q1, q2]) rfl ⟨_, rfl, ?_, HB.out.trans (bF.below (fun q e => by omega) HB.out.size)⟩
      exact RefAt.mk' (r := ⟨L, [], -1⟩) HLF.out (Sl.nil _ _)
end Go.Proofs.Ytekpjbablcoahaa
