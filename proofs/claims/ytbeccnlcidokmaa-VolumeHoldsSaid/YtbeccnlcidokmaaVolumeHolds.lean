/-
  VolumeHolds: true, whatever the contact, the amounts, the time are. No condition but that numbers are of their types.
-/
import Derived.Test.YtbeccnlcidokmaaVolO
namespace Go.Proofs.Ytbeccnlcidokmaa
open Go.RowKit Go.Maps Vol
set_option linter.unusedSimpArgs false
set_option linter.unusedVariables false

theorem vBookJ_c {L M : Nat} {E : List (Ct × Int)} (c : Ct) (hc : c.Ok) (hJ : J c E) (n : Int) (hn : 0 ≤ n) (w : World) (h : Led w L M E) :
    Calls Try.prog 7 #[.pointer (some ⟨L, 0, none⟩), ctV c, .int .u64 n] w (fun en w' => ∃ (e : Int) (E' : List (Ct × Int)), en = .returned (.int .i64 e) ∧ Led w' L M E' ∧ But (· = M) w w' ∧ J c E' ∧ (e ≠ 0 → E' = E) ∧
      (e = 0 → 0 < n ∧ ∀ en2 E2, FreeR E' c n en2 E2 → en2 = .returned (.int .i64 0) ∧ E2 = E)) := by
  have hlk := hJ.lk_b hc
  by_cases h0 : n = 0
  · refine (vBookz_c c hc n hlk.1 h0 w h).mono ?_
    rintro en w' ⟨rfl, hL, hb⟩
    exact ⟨2, E, rfl, hL, But.of_below hb, hJ, fun _ => rfl, fun h => absurd h (by decide)⟩
  · refine (vBook_c c hc n hlk.1 (by omega) w h).mono ?_
    rintro en w' ⟨E', hR, hL, hb⟩
    rcases hJ.book hc (by omega) hR with ⟨rfl, rfl⟩ | ⟨rfl, hJ', hf⟩
    · exact ⟨290, E', rfl, hL, hb, hJ, fun _ => rfl, fun h => absurd h (by decide)⟩
    · exact ⟨0, E', rfl, hL, hb, hJ', fun h => absurd rfl h, fun _ => ⟨by omega, hf⟩⟩

theorem vFreeJ_c {L M : Nat} {E E' : List (Ct × Int)} (c : Ct) (hc : c.Ok) (hJ : J c E') (n : Int) (hn : 0 < n) (hf : ∀ en2 E2, FreeR E' c n en2 E2 → en2 = .returned (.int .i64 0) ∧ E2 = E) (w : World) (h : Led w L M E') :
    Calls Try.prog 12 #[.pointer (some ⟨L, 0, none⟩), ctV c, .int .u64 n] w (fun en w' => en = .returned (.int .i64 0) ∧ Led w' L M E ∧ But (· = M) w w') := by
  have hlk := hJ.lk_b hc
  have hA := Clk.carriesF_b c.a c.b c.r (by have := hc.r1; omega)
  refine (vFree_c c hc n hlk.1 (by omega) hn w h).mono ?_
  rintro en w' ⟨E2, hR, hL, hb⟩
  obtain ⟨rfl, rfl⟩ := hf _ _ hR
  exact ⟨rfl, hL, hb⟩

/-- What the law has at hand: its contact, its two numbers, its ledger. -/
structure VH (w w1 : World) (c : Ct) (x0 x1 : Int) (L M : Nat) (E : List (Ct × Int)) : Prop where
  below : Below w.heap.size w w1
  ct : RowAt w1 w.heap.size (ctC c).toArray 32
  two : RowAt w1 (w.heap.size + 1) #[.int .u64 x0, .int .u64 x1] 37
  led : Led w1 L M E
  hL : w.heap.size + 1 < L
  hM : w.heap.size + 1 < M
theorem VH.up {w w1 w2 : World} {c : Ct} {x0 x1 : Int} {L M : Nat} {E : List (Ct × Int)} (h : VH w w1 c x0 x1 L M E) (hb : Below w1.heap.size w1 w2) : VH w w2 c x0 x1 L M E :=
  ⟨below_up h.below hb, h.ct.below hb, h.two.below hb, h.led.below hb, h.hL, h.hM⟩
theorem VH.book {w w1 w2 : World} {c : Ct} {x0 x1 : Int} {L M : Nat} {E E' : List (Ct × Int)} (h : VH w w1 c x0 x1 L M E) (hb : But (· = M) w1 w2) (hl : Led w2 L M E') : VH w w2 c x0 x1 L M E' :=
  ⟨h.below.trans (hb.below (fun k hk => by have := h.hM; omega) h.below.size), (hb.same _ h.ct.lt (by have := h.hM; omega)).trans h.ct, (hb.same _ h.two.lt (by have := h.hM; omega)).trans h.two, hl, h.hL, h.hM⟩
theorem VH.other {w w1 w2 : World} {c : Ct} {x0 x1 : Int} {L M M' : Nat} {E : List (Ct × Int)} (h : VH w w1 c x0 x1 L M E) (hb : But (· = M') w1 w2) (h1 : w.heap.size + 1 < M') (h2 : L ≠ M') (h3 : M ≠ M') : VH w w2 c x0 x1 L M E :=
  ⟨h.below.trans (hb.below (fun k hk => by omega) h.below.size), (hb.same _ h.ct.lt (by omega)).trans h.ct, (hb.same _ h.two.lt (by omega)).trans h.two, h.led.but hb h2 h3, h.hL, h.hM⟩

set_option maxHeartbeats 8000000 in
set_option maxRecDepth 100000 in
theorem volumeHolds_c (c : Ct) (f2 : c.from_ ≤ 4294967295) (t2 : c.to ≤ 4294967295) (a0 : 0 ≤ c.a) (xs : List Int) (v : Value) (n : Nat) (x0 x1 : Int) (hx0 : 0 ≤ x0) (hx1 : 0 ≤ x1) (w : World) (hv : Sl w 1 v n (xs.map (.int .u64))) (hxs : ∀ x ∈ xs, 0 ≤ x) :
    Calls Try.prog 4 #[ctV c, v, .agg #[.int .u64 x0, .int .u64 x1]] w (Ret (.bool true) w) := by
  obtain ⟨av, cv, rfl⟩ := hv.len
  have hln : xs.length = n := by have := hv.1; simpa using this
  have hB2 : Below w.heap.size w ((w.alloc (.cells (ctC c).toArray 32)).alloc (.cells #[.int .u64 x0, .int .u64 x1] 37)) := (below_alloc w _).alloc (by simp) _
  have C2 := (RowAt.new w (ctC c).toArray 32).alloc (.cells #[.int .u64 x0, .int .u64 x1] 37)
  have X2 := RowAt.new (w.alloc (.cells (ctC c).toArray 32)) #[.int .u64 x0, .int .u64 x1] 37
  rw [show (w.alloc (.cells (ctC c).toArray 32)).heap.size = w.heap.size + 1 by simp] at X2
  have HB := Lib.hid hB2
  have HS := Lib.hid hxs
  have HN := Lib.hid hln
  have hmx := hv.n_max
  clear hB2 hxs hln
  by_cases h30 : 30 < n
  · have h30' : (30 : Int) < (n : Int) := by omega
    go_enter Try.func4, Try.ntmps4
    go_wp2_with (go_at_call 5; refine (vWorks_c _).mono ?_; rintro en w1 ⟨rfl, hb⟩; replace HB := Lib.hid (below_up HB.out hb))
    go_ret
    exact ⟨rfl, HB.out⟩
  have h30' : ¬ (30 : Int) < (n : Int) := by omega
  have hR := fun w => ctRightR_c c w
  cases hok : okB c with
  | false =>
    rw [hok] at hR
    go_enter Try.func4, Try.ntmps4
    go_wp2_with (first
      | (go_at_call 10; refine (hR _).mono ?_; rintro en w1 ⟨rfl, hb⟩; replace HB := Lib.hid (below_up HB.out hb))
      | (go_at_call 5; refine (vWorks_c _).mono ?_; rintro en w1 ⟨rfl, hb⟩; replace HB := Lib.hid (below_up HB.out hb)))
    go_ret
    exact ⟨rfl, HB.out⟩
  | true =>
    rw [hok] at hR
    have hc := okB_ok hok f2 t2 a0
    have HC := Lib.hid hc
    clear hok
    go_enter Try.func4, Try.ntmps4
    go_wp2_with (first
      | (go_at_call 10; refine (hR _).mono ?_; rintro en w1 ⟨rfl, hb⟩; replace HB := Lib.hid (below_up HB.out hb); replace C2 := C2.below hb; replace X2 := X2.below hb; clear hb)
      | (go_at_call 6; refine (vNew_c _).mono ?_; rintro en w2 ⟨rfl, HL, hb⟩; have hx2 := X2.lt; replace HB := Lib.hid (below_up HB.out hb); replace C2 := C2.below hb; replace X2 := X2.below hb; clear hb))
    obtain ⟨L, hLe⟩ : ∃ L, L = w1.heap.size + 1 := ⟨_, rfl⟩
    obtain ⟨M, hMe⟩ : ∃ M, M = w1.heap.size := ⟨_, rfl⟩
    rw [← hLe, ← hMe] at HL
    try rw [← hLe]
    have V0 : VH w w2 c x0 x1 L M [] := ⟨HB.out, C2, X2, HL, by omega, by omega⟩
    have hL1 : w.heap.size + 1 < L := by omega
    have hM1 : w.heap.size + 1 < M := by omega
    clear HL C2 X2 hR hx2 hLe hMe w1 HB
    go_loopw [8] (fun t wr => ∃ (i : Nat) (E : List (Ct × Int)), i ≤ n ∧ t = .int .i64 i ∧ J c E ∧ VH w wr c x0 x1 L M E) (fun t _ => n - (intOf t).toNat)
    case atStart => exact ⟨0, [], Nat.zero_le _, rfl, .inl rfl, V0⟩
    case round =>
      clear V0
      obtain ⟨i, E, hi, rfl, hJ, V⟩ := hrel
      have HJ := Lib.hid hJ
      clear hJ
      by_cases hlt : i < n
      · have hlt2 : (i : Int) < (n : Int) := by omega
        obtain ⟨b, off, rfl, hcell⟩ := (hv.up V.below).cellAt (k := i) (by omega) (by omega)
        have hil : i < xs.length := by rw [HN.out]; exact hlt
        rw [List.getElem?_map, List.getElem?_eq_getElem hil] at hcell
        simp only [Option.map_some] at hcell
        have hpos := HS.out _ (List.getElem_mem hil)
        obtain ⟨x, hx⟩ : ∃ x, x = xs[i] := ⟨_, rfl⟩
        rw [← hx] at hcell hpos
        clear hx
        have hbM : b < w.heap.size := by
          obtain ⟨b', off', e, hc'⟩ := hv.cellAt (k := i) (by omega) (by omega)
          obtain ⟨rfl, rfl⟩ : b' = b ∧ off' = off := by simpa using e.symm
          rw [List.getElem?_map, List.getElem?_eq_getElem hil] at hc'
          exact World.block_lt_of_cell? w ⟨b', off' + i, none⟩ hc'
        go_wp2_with (go_at_call 11; refine (vCopy_c _ V.led).mono ?_; rintro en w3 ⟨L', M', rfl, HL', hL', hM', hb⟩; have hsz := V.led.var.lt; have hsz2 := V.led.map.lt; replace V := V.up hb; replace hcell := cell_up hb hcell; clear hb)
        have V3 := Lib.hid V
        have hne1 : L ≠ M' := by omega
        have hne2 : M ≠ M' := by omega
        have hne3 : L' ≠ M := by omega
        have hne4 : M' ≠ M := by omega
        clear hsz hsz2
        refine wp_region_po (· = M) [(0, false), (1, false), (2, false), (3, false), (4, false), (5, false), (6, true), (7, true), (8, false)] (by kernel_rfl) (by kernel_rfl) (by kernel_rfl) rfl (fun _ _ d _ _ h => by cases d <;> exact h) (fun Wd hBd => ?_)
        try simp only [Act.put, List.getElem_toArray, List.getElem_cons_zero, List.getElem_cons_succ, List.setIfInBounds_toArray, List.set_cons_zero, List.set_cons_succ]
        have V1 := V.up hBd
        have hcell1 : ∀ w', But (· = M) Wd w' → w'.cell? ⟨b, off + i, none⟩ = some (.int .u64 x) := fun w' h => h.cell (cell_up hBd hcell) (by omega)
        have HL1 := HL'.below hBd
        refine po_q (v := ?_) rfl (by rfl) ?_ ?_
        rotate_left
        · intro w' hBw'
          first | (go_simp; done) | (go_simp; with_reducible rfl)
        try simp only [Act.put, List.getElem_toArray, List.getElem_cons_zero, List.getElem_cons_succ, List.setIfInBounds_toArray, List.set_cons_zero, List.set_cons_succ]
        refine po_load rfl (by rfl) 32 (.tmp 3) rfl w.heap.size 0 rfl (ctC c) _ V1.ct.range (by omega) Try.underlying32 rfl (by kernel_rfl) ?_
        try simp only [Act.put, List.getElem_toArray, List.getElem_cons_zero, List.getElem_cons_succ, List.setIfInBounds_toArray, List.set_cons_zero, List.set_cons_succ]
        refine po_q (v := ?_) rfl (by rfl) ?_ ?_
        rotate_left
        · intro w' hBw'
          first | (go_simp; done) | (go_simp; with_reducible rfl)
        try simp only [Act.put, List.getElem_toArray, List.getElem_cons_zero, List.getElem_cons_succ, List.setIfInBounds_toArray, List.set_cons_zero, List.set_cons_succ]
        refine po_q (v := ?_) rfl (by rfl) ?_ ?_
        rotate_left
        · intro w' hBw'
          first | (go_simp; done) | (go_simp; with_reducible rfl)
        try simp only [Act.put, List.getElem_toArray, List.getElem_cons_zero, List.getElem_cons_succ, List.setIfInBounds_toArray, List.set_cons_zero, List.set_cons_succ]
        refine po_q (v := ?_) rfl (by rfl) ?_ ?_
        rotate_left
        · intro w' hBw'
          first | (go_simp; done) | (go_simp; with_reducible rfl)
        try simp only [Act.put, List.getElem_toArray, List.getElem_cons_zero, List.getElem_cons_succ, List.setIfInBounds_toArray, List.set_cons_zero, List.set_cons_succ]
        refine po_q (v := ?_) rfl (by rfl) ?_ ?_
        rotate_left
        · intro w' hBw'
          first | (go_simp; done) | (go_simp; with_reducible rfl)
        try simp only [Act.put, List.getElem_toArray, List.getElem_cons_zero, List.getElem_cons_succ, List.setIfInBounds_toArray, List.set_cons_zero, List.set_cons_succ]
        refine po_c rfl (by rfl) (fun K hK => ?_)
        go_simp
        refine (vBookJ_c c HC.out HJ.out x hpos _ V1.led).mono ?_
        rintro en w4 ⟨e, E', rfl, hL4, hb4, hJ4, he1, he0⟩
        go_wp2_with fail
        refine hK.out _ _ hb4 ?_
        clear hK K
        try simp only [Act.put, List.getElem_toArray, List.getElem_cons_zero, List.getElem_cons_succ, List.setIfInBounds_toArray, List.set_cons_zero, List.set_cons_succ]
        refine po_c rfl (by rfl) (fun K hK => ?_)
        go_simp
        refine (num_cv e _).mono ?_
        rintro en w5 ⟨rfl, rfl⟩
        go_wp2_with fail
        refine hK.out _ _ (But.refl _ _) ?_
        clear hK K
        try simp only [Act.put, List.getElem_toArray, List.getElem_cons_zero, List.getElem_cons_succ, List.setIfInBounds_toArray, List.set_cons_zero, List.set_cons_succ]
        refine po_q (v := ?_) rfl (by rfl) ?_ ?_
        rotate_left
        · intro w' hBw'
          first | (go_simp; done) | (go_simp; with_reducible rfl)
        try simp only [Act.put, List.getElem_toArray, List.getElem_cons_zero, List.getElem_cons_succ, List.setIfInBounds_toArray, List.set_cons_zero, List.set_cons_succ]
        refine po_nil ?_
        have V4 := V1.book hb4 hL4
        have HL4 := HL1.but hb4 hne3 hne4
        have hB4 := hb4.below (B := w.heap.size) (fun k hk => by omega) V1.below.size
        clear V V1 HL1 HL' hcell1 hb4 hL4 hBd
        have HJ4 := Lib.hid hJ4
        clear hJ4
        by_cases he : e = 0
        · obtain ⟨hx0', hf⟩ := he0 he
          subst he
          have HF := Lib.hid hf
          clear hf he0 he1
          have hcell4 : w4.cell? ⟨b, off + i, none⟩ = some (.int .u64 x) := by
            obtain ⟨b', off', e', hc'⟩ := (hv.up V4.below).cellAt (k := i) (by omega) (by omega)
            obtain ⟨rfl, rfl⟩ : b' = b ∧ off' = off := by simpa using e'.symm
            rw [List.getElem?_map, List.getElem?_eq_getElem hil] at hc'
            obtain ⟨b'', off'', e'', hc''⟩ := (hv.up V3.out.below).cellAt (k := i) (by omega) (by omega)
            obtain ⟨rfl, rfl⟩ : b'' = b' ∧ off'' = off' := by simpa using e''.symm
            rw [List.getElem?_map, List.getElem?_eq_getElem hil, hcell] at hc''
            rw [hc', hc'']
          go_wp2_with (go_at_call 11; refine (vCopy_c _ V4.led).mono ?_; rintro en w5 ⟨L5, M5, rfl, HL5, hL5, hM5, hb⟩; have hsz := V4.led.var.lt; have hsz2 := V4.led.map.lt; have hsz3 := HL4.var.lt; have hsz4 := HL4.map.lt; replace V4 := V4.up hb; replace HL4 := HL4.below hb; replace hcell4 := cell_up hb hcell4; clear hb)
          have hn1 : L ≠ M5 := by omega
          have hn2 : M ≠ M5 := by omega
          have hn3 : L' ≠ M5 := by omega
          have hn4 : M' ≠ M5 := by omega
          have hn5 : w.heap.size + 1 < M5 := by omega
          clear hsz hsz2 hsz3 hsz4
          refine wp_region_po (· = M5) [(0, false), (1, false), (2, false), (3, false), (4, false), (5, false), (6, true), (7, true), (8, false), (9, false), (10, false), (11, false), (12, true), (13, false), (14, false)] (by kernel_rfl) (by kernel_rfl) (by kernel_rfl) rfl (fun _ _ d _ _ h => by cases d <;> exact h) (fun Wd hBd => ?_)
          try simp only [Act.put, List.getElem_toArray, List.getElem_cons_zero, List.getElem_cons_succ, List.setIfInBounds_toArray, List.set_cons_zero, List.set_cons_succ]
          have V1 := V4.up hBd
          have hcell1 : ∀ w', But (· = M5) Wd w' → w'.cell? ⟨b, off + i, none⟩ = some (.int .u64 x) := fun w' h => h.cell (cell_up hBd hcell4) (by omega)
          have HL1 := HL5.below hBd
          have HK1 := HL4.below hBd
          refine po_q (v := ?_) rfl (by rfl) ?_ ?_
          rotate_left
          · intro w' hBw'
            first | (go_simp; done) | (go_simp; with_reducible rfl)
          try simp only [Act.put, List.getElem_toArray, List.getElem_cons_zero, List.getElem_cons_succ, List.setIfInBounds_toArray, List.set_cons_zero, List.set_cons_succ]
          refine po_load rfl (by rfl) 32 (.tmp 3) rfl w.heap.size 0 rfl (ctC c) _ V1.ct.range (by omega) Try.underlying32 rfl (by kernel_rfl) ?_
          try simp only [Act.put, List.getElem_toArray, List.getElem_cons_zero, List.getElem_cons_succ, List.setIfInBounds_toArray, List.set_cons_zero, List.set_cons_succ]
          refine po_q (v := ?_) rfl (by rfl) ?_ ?_
          rotate_left
          · intro w' hBw'
            first | (go_simp; done) | (go_simp; with_reducible rfl)
          try simp only [Act.put, List.getElem_toArray, List.getElem_cons_zero, List.getElem_cons_succ, List.setIfInBounds_toArray, List.set_cons_zero, List.set_cons_succ]
          refine po_q (v := ?_) rfl (by rfl) ?_ ?_
          rotate_left
          · intro w' hBw'
            first | (go_simp; done) | (go_simp; with_reducible rfl)
          try simp only [Act.put, List.getElem_toArray, List.getElem_cons_zero, List.getElem_cons_succ, List.setIfInBounds_toArray, List.set_cons_zero, List.set_cons_succ]
          refine po_q (v := ?_) rfl (by rfl) ?_ ?_
          rotate_left
          · intro w' hBw'
            first | (go_simp; done) | (go_simp; with_reducible rfl)
          try simp only [Act.put, List.getElem_toArray, List.getElem_cons_zero, List.getElem_cons_succ, List.setIfInBounds_toArray, List.set_cons_zero, List.set_cons_succ]
          refine po_q (v := ?_) rfl (by rfl) ?_ ?_
          rotate_left
          · intro w' hBw'
            first | (go_simp; done) | (go_simp; with_reducible rfl)
          try simp only [Act.put, List.getElem_toArray, List.getElem_cons_zero, List.getElem_cons_succ, List.setIfInBounds_toArray, List.set_cons_zero, List.set_cons_succ]
          refine po_c rfl (by rfl) (fun K hK => ?_)
          go_simp
          refine (vFreeJ_c c HC.out HJ4.out x hx0' HF.out _ HL1).mono ?_
          rintro en w6 ⟨rfl, hL6, hb6⟩
          go_wp2_with fail
          refine hK.out _ _ hb6 ?_
          clear hK K
          try simp only [Act.put, List.getElem_toArray, List.getElem_cons_zero, List.getElem_cons_succ, List.setIfInBounds_toArray, List.set_cons_zero, List.set_cons_succ]
          have V6 := V1.other hb6 hn5 hn1 hn2
          have HK6 := HK1.but hb6 hn3 hn4
          refine po_c rfl (by rfl) (fun K hK => ?_)
          go_simp
          refine (num_cv 0 _).mono ?_
          rintro en w7 ⟨rfl, rfl⟩
          go_wp2_with fail
          refine hK.out _ _ (But.refl _ _) ?_
          clear hK K
          try simp only [Act.put, List.getElem_toArray, List.getElem_cons_zero, List.getElem_cons_succ, List.setIfInBounds_toArray, List.set_cons_zero, List.set_cons_succ]
          refine po_q (v := ?_) rfl (by rfl) ?_ ?_
          rotate_left
          · intro w' hBw'
            first | (go_simp; done) | (go_simp; with_reducible rfl)
          try simp only [Act.put, List.getElem_toArray, List.getElem_cons_zero, List.getElem_cons_succ, List.setIfInBounds_toArray, List.set_cons_zero, List.set_cons_succ]
          refine po_q (v := ?_) rfl (by rfl) ?_ ?_
          rotate_left
          · intro w' hBw'
            first | (go_simp; done) | (go_simp; with_reducible rfl)
          try simp only [Act.put, List.getElem_toArray, List.getElem_cons_zero, List.getElem_cons_succ, List.setIfInBounds_toArray, List.set_cons_zero, List.set_cons_succ]
          refine po_q (v := ?_) rfl (by rfl) ?_ ?_
          rotate_left
          · intro w' hBw'
            first | (go_simp; done) | (go_simp; with_reducible rfl)
          try simp only [Act.put, List.getElem_toArray, List.getElem_cons_zero, List.getElem_cons_succ, List.setIfInBounds_toArray, List.set_cons_zero, List.set_cons_succ]
          refine po_q (v := ?_) rfl (by rfl) ?_ ?_
          rotate_left
          · intro w' hBw'
            first | (go_simp; done) | (go_simp; with_reducible rfl)
          try simp only [Act.put, List.getElem_toArray, List.getElem_cons_zero, List.getElem_cons_succ, List.setIfInBounds_toArray, List.set_cons_zero, List.set_cons_succ]
          refine po_c rfl (by rfl) (fun K hK => ?_)
          go_simp
          refine (vSame_c _ hL6 HK6 (fun p hp => by rcases HJ.out with rfl | ⟨m, rfl, _⟩ <;> simp at hp; subst hp; exact HC.out)).mono ?_
          rw [HJ.out.eq]
          rintro en w8 ⟨rfl, hb8⟩
          go_wp2_with fail
          refine hK.out _ _ (But.of_below hb8) ?_
          clear hK K
          try simp only [Act.put, List.getElem_toArray, List.getElem_cons_zero, List.getElem_cons_succ, List.setIfInBounds_toArray, List.set_cons_zero, List.set_cons_succ]
          have V8 := V6.up hb8
          refine po_q (v := ?_) rfl (by rfl) ?_ ?_
          rotate_left
          · intro w' hBw'
            first | (go_simp; done) | (go_simp; with_reducible rfl)
          try simp only [Act.put, List.getElem_toArray, List.getElem_cons_zero, List.getElem_cons_succ, List.setIfInBounds_toArray, List.set_cons_zero, List.set_cons_succ]
          refine po_q (v := ?_) rfl (by rfl) ?_ ?_
          rotate_left
          · intro w' hBw'
            first | (go_simp; done) | (go_simp; with_reducible rfl)
          try simp only [Act.put, List.getElem_toArray, List.getElem_cons_zero, List.getElem_cons_succ, List.setIfInBounds_toArray, List.set_cons_zero, List.set_cons_succ]
          refine po_nil ?_
          clear hcell1 hcell4 HL1 HK1 V1 HL5 HL4 HK6 hL6 hb6 V6
          go_wp2
          go_roundw
          case rel => exact ⟨i + 1, _, by omega, by go_num, HJ4.out, V8⟩
          case measure => simp [intOf]; omega
        · obtain rfl := he1 he
          have he' : (e == 0) = false := by rw [beq_eq_false_iff_ne]; exact he
          go_wp2
          go_roundw
          case rel => exact ⟨i + 1, _, by omega, by go_num, HJ4.out, V4⟩
          case measure => simp [intOf]; omega
      · obtain rfl : i = n := by omega
        clear hlt hi
        have hlk := HJ.out.lk_b hc
        obtain ⟨n0, hn0⟩ : ∃ n0, n0 = (lk E c).2 := ⟨_, rfl⟩
        rw [← hn0] at hlk
        have HN0 := Lib.hid hn0
        clear hn0
        have hroom : ∀ (at_ : Int), 0 ≤ at_ → ∀ w (L M : Nat), Led w L M E → Calls Try.prog 14 #[.pointer (some ⟨L, 0, none⟩), ctV c, .int .u64 at_] w (Ret (.int .u64 (roomF c n0 at_)) w) := fun at_ h w L M hL => by
          have := vRoom_c c HC.out at_ h (by rw [← HN0.out]; exact hlk.1) w hL
          rwa [← HN0.out] at this
        have hbooked : ∀ w (L M : Nat), Led w L M E → Calls Try.prog 15 #[.pointer (some ⟨L, 0, none⟩), ctV c] w (Ret (.int .u64 n0) w) := fun w L M hL => by
          have := vBookedL_c c HC.out w hL
          rwa [← HN0.out] at this
        have HROOM := Lib.hid hroom
        have HBOOK := Lib.hid hbooked
        have HV := Lib.hid V
        clear hroom hbooked V
        obtain ⟨R, hR⟩ : ∃ R, R = roomF c n0 x0 := ⟨_, rfl⟩
        obtain ⟨R0, hR0⟩ : ∃ R0, R0 = roomF c n0 c.a := ⟨_, rfl⟩
        have hA0 := room_none hc
        obtain ⟨A, hA⟩ : ∃ A, A = Clk.carriesF c.a c.b c.r := ⟨_, rfl⟩
        have HRR := Lib.hid hR
        have HR0 := Lib.hid hR0
        have HA := Lib.hid hA
        rw [← hA] at hlk hA0
        have HA0 := Lib.hid hA0
        have hnlt : ¬ A < n0 := by omega
        have ca := hc.a0
        clear hR hR0 hA hA0
        go_wp2
        refine wp_region_pi [(0, false), (1, false), (2, false), (3, false), (4, false), (5, false)] (by kernel_rfl) (by kernel_rfl) (by kernel_rfl) rfl (fun _ _ d _ _ h => by cases d <;> exact h) (fun Wd hBd => ?_)
        try simp only [Act.put, List.getElem_toArray, List.getElem_cons_zero, List.getElem_cons_succ, List.setIfInBounds_toArray, List.set_cons_zero, List.set_cons_succ]
        have V1 := HV.out.up hBd
        have hy0 : ∀ w', Below Wd.heap.size Wd w' → w'.cell? ⟨w.heap.size + 1, 0, none⟩ = some (.int .u64 x0) := fun w' h => cell_up h (V1.two.cell (i := 0) rfl)
        have hy1 : ∀ w', Below Wd.heap.size Wd w' → w'.cell? ⟨w.heap.size + 1, 1, none⟩ = some (.int .u64 x1) := fun w' h => cell_up h (V1.two.cell (i := 1) rfl)
        refine pi_q (v := ?_) rfl (by rfl) ?_ ?_
        rotate_left
        · intro w' hBw'
          first | (go_simp; done) | (go_simp; with_reducible rfl)
        try simp only [Act.put, List.getElem_toArray, List.getElem_cons_zero, List.getElem_cons_succ, List.setIfInBounds_toArray, List.set_cons_zero, List.set_cons_succ]
        refine pi_q (v := ?_) rfl (by rfl) ?_ ?_
        rotate_left
        · intro w' hBw'
          first | (go_simp; done) | (go_simp; with_reducible rfl)
        try simp only [Act.put, List.getElem_toArray, List.getElem_cons_zero, List.getElem_cons_succ, List.setIfInBounds_toArray, List.set_cons_zero, List.set_cons_succ]
        refine pi_q (v := ?_) rfl (by rfl) ?_ ?_
        rotate_left
        · intro w' hBw'
          first | (go_simp; done) | (go_simp; with_reducible rfl)
        try simp only [Act.put, List.getElem_toArray, List.getElem_cons_zero, List.getElem_cons_succ, List.setIfInBounds_toArray, List.set_cons_zero, List.set_cons_succ]
        refine pi_q (v := ?_) rfl (by rfl) ?_ ?_
        rotate_left
        · intro w' hBw'
          first | (go_simp; done) | (go_simp; with_reducible rfl)
        try simp only [Act.put, List.getElem_toArray, List.getElem_cons_zero, List.getElem_cons_succ, List.setIfInBounds_toArray, List.set_cons_zero, List.set_cons_succ]
        refine pi_q (v := ?_) rfl (by rfl) ?_ ?_
        rotate_left
        · intro w' hBw'
          first | (go_simp; done) | (go_simp; with_reducible rfl)
        try simp only [Act.put, List.getElem_toArray, List.getElem_cons_zero, List.getElem_cons_succ, List.setIfInBounds_toArray, List.set_cons_zero, List.set_cons_succ]
        refine pi_q (v := ?_) rfl (by rfl) ?_ ?_
        rotate_left
        · intro w' hBw'
          first | (go_simp; done) | (go_simp; with_reducible rfl)
        try simp only [Act.put, List.getElem_toArray, List.getElem_cons_zero, List.getElem_cons_succ, List.setIfInBounds_toArray, List.set_cons_zero, List.set_cons_succ]
        refine pi_nil ?_
        replace HV := Lib.hid V1
        clear V1 hy0 hy1
        go_wp2
        refine wp_region_pi [(0, false), (1, false), (2, false), (4, false), (5, false), (3, true), (6, true), (7, false), (8, false)] (by kernel_rfl) (by kernel_rfl) (by kernel_rfl) rfl (fun _ _ d _ _ h => by cases d <;> exact h) (fun Wd hBd => ?_)
        try simp only [Act.put, List.getElem_toArray, List.getElem_cons_zero, List.getElem_cons_succ, List.setIfInBounds_toArray, List.set_cons_zero, List.set_cons_succ]
        have V1 := HV.out.up hBd
        refine pi_q (v := ?_) rfl (by rfl) ?_ ?_
        rotate_left
        · intro w' hBw'
          first | (go_simp; done) | (go_simp; with_reducible rfl)
        try simp only [Act.put, List.getElem_toArray, List.getElem_cons_zero, List.getElem_cons_succ, List.setIfInBounds_toArray, List.set_cons_zero, List.set_cons_succ]
        refine pi_load rfl (by rfl) 32 (.tmp 3) rfl w.heap.size 0 rfl (ctC c) _ V1.ct.range Try.underlying32 rfl (by kernel_rfl) ?_
        try simp only [Act.put, List.getElem_toArray, List.getElem_cons_zero, List.getElem_cons_succ, List.setIfInBounds_toArray, List.set_cons_zero, List.set_cons_succ]
        refine pi_q (v := ?_) rfl (by rfl) ?_ ?_
        rotate_left
        · intro w' hBw'
          first | (go_simp; done) | (go_simp; with_reducible rfl)
        try simp only [Act.put, List.getElem_toArray, List.getElem_cons_zero, List.getElem_cons_succ, List.setIfInBounds_toArray, List.set_cons_zero, List.set_cons_succ]
        refine pi_q (v := ?_) rfl (by rfl) ?_ ?_
        rotate_left
        · intro w' hBw'
          first | (go_simp; done) | (go_simp; with_reducible rfl)
        try simp only [Act.put, List.getElem_toArray, List.getElem_cons_zero, List.getElem_cons_succ, List.setIfInBounds_toArray, List.set_cons_zero, List.set_cons_succ]
        refine pi_load rfl (by rfl) 32 (.tmp 3) rfl w.heap.size 0 rfl (ctC c) _ V1.ct.range Try.underlying32 rfl (by kernel_rfl) ?_
        try simp only [Act.put, List.getElem_toArray, List.getElem_cons_zero, List.getElem_cons_succ, List.setIfInBounds_toArray, List.set_cons_zero, List.set_cons_succ]
        refine pi_c rfl (by rfl) (fun K hK => ?_)
        go_simp
        refine (HROOM.out x0 hx0 _ L M V1.led).mono ?_
        rw [← HRR.out]
        rintro en w6 ⟨rfl, hb6⟩
        go_wp2_with fail
        refine hK.out _ _ hb6 ?_
        clear hK K
        try simp only [Act.put, List.getElem_toArray, List.getElem_cons_zero, List.getElem_cons_succ, List.setIfInBounds_toArray, List.set_cons_zero, List.set_cons_succ]
        replace V1 := V1.up hb6
        refine pi_c rfl (by rfl) (fun K hK => ?_)
        go_simp
        refine (HBOOK.out _ L M V1.led).mono ?_
        rintro en w7 ⟨rfl, hb7⟩
        go_wp2_with fail
        refine hK.out _ _ hb7 ?_
        clear hK K
        try simp only [Act.put, List.getElem_toArray, List.getElem_cons_zero, List.getElem_cons_succ, List.setIfInBounds_toArray, List.set_cons_zero, List.set_cons_succ]
        replace V1 := V1.up hb7
        refine pi_q (v := ?_) rfl (by rfl) ?_ ?_
        rotate_left
        · intro w' hBw'
          first | (go_simp; done) | (go_simp; with_reducible rfl)
        try simp only [Act.put, List.getElem_toArray, List.getElem_cons_zero, List.getElem_cons_succ, List.setIfInBounds_toArray, List.set_cons_zero, List.set_cons_succ]
        refine pi_q (v := ?_) rfl (by rfl) ?_ ?_
        rotate_left
        · intro w' hBw'
          first | (go_simp; done) | (go_simp; with_reducible rfl)
        try simp only [Act.put, List.getElem_toArray, List.getElem_cons_zero, List.getElem_cons_succ, List.setIfInBounds_toArray, List.set_cons_zero, List.set_cons_succ]
        refine pi_nil ?_
        replace HV := Lib.hid V1
        clear V1 hb6 hb7
        go_wp2
        refine wp_region_pi [(0, false), (1, false), (3, false), (4, false), (5, false), (6, false), (7, false), (2, true), (8, true), (9, false), (10, false), (12, false), (14, false), (11, true), (13, true), (15, false), (16, false)] (by kernel_rfl) (by kernel_rfl) (by kernel_rfl) rfl (fun _ _ d _ _ h => by cases d <;> exact h) (fun Wd hBd => ?_)
        try simp only [Act.put, List.getElem_toArray, List.getElem_cons_zero, List.getElem_cons_succ, List.setIfInBounds_toArray, List.set_cons_zero, List.set_cons_succ]
        have V1 := HV.out.up hBd
        have hya : ∀ w', Below Wd.heap.size Wd w' → w'.cell? ⟨w.heap.size, 2, none⟩ = some (.int .u64 c.a) := fun w' h => cell_up h (V1.ct.cell (i := 2) rfl)
        refine pi_q (v := ?_) rfl (by rfl) ?_ ?_
        rotate_left
        · intro w' hBw'
          first | (go_simp; done) | (go_simp; with_reducible rfl)
        try simp only [Act.put, List.getElem_toArray, List.getElem_cons_zero, List.getElem_cons_succ, List.setIfInBounds_toArray, List.set_cons_zero, List.set_cons_succ]
        refine pi_load rfl (by rfl) 32 (.tmp 3) rfl w.heap.size 0 rfl (ctC c) _ V1.ct.range Try.underlying32 rfl (by kernel_rfl) ?_
        try simp only [Act.put, List.getElem_toArray, List.getElem_cons_zero, List.getElem_cons_succ, List.setIfInBounds_toArray, List.set_cons_zero, List.set_cons_succ]
        refine pi_q (v := ?_) rfl (by rfl) ?_ ?_
        rotate_left
        · intro w' hBw'
          first | (go_simp; done) | (go_simp; with_reducible rfl)
        try simp only [Act.put, List.getElem_toArray, List.getElem_cons_zero, List.getElem_cons_succ, List.setIfInBounds_toArray, List.set_cons_zero, List.set_cons_succ]
        refine pi_load rfl (by rfl) 32 (.tmp 3) rfl w.heap.size 0 rfl (ctC c) _ V1.ct.range Try.underlying32 rfl (by kernel_rfl) ?_
        try simp only [Act.put, List.getElem_toArray, List.getElem_cons_zero, List.getElem_cons_succ, List.setIfInBounds_toArray, List.set_cons_zero, List.set_cons_succ]
        refine pi_q (v := ?_) rfl (by rfl) ?_ ?_
        rotate_left
        · intro w' hBw'
          first | (go_simp; done) | (go_simp; with_reducible rfl)
        try simp only [Act.put, List.getElem_toArray, List.getElem_cons_zero, List.getElem_cons_succ, List.setIfInBounds_toArray, List.set_cons_zero, List.set_cons_succ]
        refine pi_q (v := ?_) rfl (by rfl) ?_ ?_
        rotate_left
        · intro w' hBw'
          first | (go_simp; done) | (go_simp; with_reducible rfl)
        try simp only [Act.put, List.getElem_toArray, List.getElem_cons_zero, List.getElem_cons_succ, List.setIfInBounds_toArray, List.set_cons_zero, List.set_cons_succ]
        refine pi_q (v := ?_) rfl (by rfl) ?_ ?_
        rotate_left
        · intro w' hBw'
          first | (go_simp; done) | (go_simp; with_reducible rfl)
        try simp only [Act.put, List.getElem_toArray, List.getElem_cons_zero, List.getElem_cons_succ, List.setIfInBounds_toArray, List.set_cons_zero, List.set_cons_succ]
        refine pi_c rfl (by rfl) (fun K hK => ?_)
        go_simp
        refine (HROOM.out 0 (Int.le_refl 0) _ L M V1.led).mono ?_
        rw [room_zero HC.out, ← HR0.out]
        rintro en w6 ⟨rfl, hb6⟩
        go_wp2_with fail
        refine hK.out _ _ hb6 ?_
        clear hK K
        try simp only [Act.put, List.getElem_toArray, List.getElem_cons_zero, List.getElem_cons_succ, List.setIfInBounds_toArray, List.set_cons_zero, List.set_cons_succ]
        replace V1 := V1.up hb6
        replace hya : ∀ w', Below w6.heap.size w6 w' → w'.cell? ⟨w.heap.size, 2, none⟩ = some (.int .u64 c.a) := fun w' h => cell_up h (V1.ct.cell (i := 2) rfl)
        refine pi_c rfl (by rfl) (fun K hK => ?_)
        go_simp
        refine (HROOM.out c.a ca _ L M V1.led).mono ?_
        rw [← HR0.out]
        rintro en w7 ⟨rfl, hb7⟩
        go_wp2_with fail
        refine hK.out _ _ hb7 ?_
        clear hK K
        try simp only [Act.put, List.getElem_toArray, List.getElem_cons_zero, List.getElem_cons_succ, List.setIfInBounds_toArray, List.set_cons_zero, List.set_cons_succ]
        replace V1 := V1.up hb7
        refine pi_q (v := ?_) rfl (by rfl) ?_ ?_
        rotate_left
        · intro w' hBw'
          first | (go_simp; done) | (go_simp; with_reducible rfl)
        try simp only [Act.put, List.getElem_toArray, List.getElem_cons_zero, List.getElem_cons_succ, List.setIfInBounds_toArray, List.set_cons_zero, List.set_cons_succ]
        refine pi_q (v := ?_) rfl (by rfl) ?_ ?_
        rotate_left
        · intro w' hBw'
          first | (go_simp; done) | (go_simp; with_reducible rfl)
        try simp only [Act.put, List.getElem_toArray, List.getElem_cons_zero, List.getElem_cons_succ, List.setIfInBounds_toArray, List.set_cons_zero, List.set_cons_succ]
        refine pi_load rfl (by rfl) 32 (.tmp 3) rfl w.heap.size 0 rfl (ctC c) _ V1.ct.range Try.underlying32 rfl (by kernel_rfl) ?_
        try simp only [Act.put, List.getElem_toArray, List.getElem_cons_zero, List.getElem_cons_succ, List.setIfInBounds_toArray, List.set_cons_zero, List.set_cons_succ]
        refine pi_q (v := ?_) rfl (by rfl) ?_ ?_
        rotate_left
        · intro w' hBw'
          first | (go_simp; done) | (go_simp; with_reducible rfl)
        try simp only [Act.put, List.getElem_toArray, List.getElem_cons_zero, List.getElem_cons_succ, List.setIfInBounds_toArray, List.set_cons_zero, List.set_cons_succ]
        refine pi_c rfl (by rfl) (fun K hK => ?_)
        go_simp
        refine (vNew_c _).mono ?_
        rintro en w8 ⟨rfl, HL8, hb8⟩
        go_wp2_with fail
        refine hK.out _ _ hb8 ?_
        clear hK K
        try simp only [Act.put, List.getElem_toArray, List.getElem_cons_zero, List.getElem_cons_succ, List.setIfInBounds_toArray, List.set_cons_zero, List.set_cons_succ]
        replace V1 := V1.up hb8
        refine pi_c rfl (by rfl) (fun K hK => ?_)
        go_simp
        refine (vRoom_c (E := []) c HC.out 0 (Int.le_refl 0) (Int.le_refl 0) _ HL8).mono ?_
        rw [show (lk [] c).2 = 0 from rfl, HA0.out]
        rintro en w9 ⟨rfl, hb9⟩
        go_wp2_with fail
        refine hK.out _ _ hb9 ?_
        clear hK K
        try simp only [Act.put, List.getElem_toArray, List.getElem_cons_zero, List.getElem_cons_succ, List.setIfInBounds_toArray, List.set_cons_zero, List.set_cons_succ]
        replace V1 := V1.up hb9
        refine pi_q (v := ?_) rfl (by rfl) ?_ ?_
        rotate_left
        · intro w' hBw'
          first | (go_simp; done) | (go_simp; with_reducible rfl)
        try simp only [Act.put, List.getElem_toArray, List.getElem_cons_zero, List.getElem_cons_succ, List.setIfInBounds_toArray, List.set_cons_zero, List.set_cons_succ]
        refine pi_q (v := ?_) rfl (by rfl) ?_ ?_
        rotate_left
        · intro w' hBw'
          first | (go_simp; done) | (go_simp; with_reducible rfl)
        try simp only [Act.put, List.getElem_toArray, List.getElem_cons_zero, List.getElem_cons_succ, List.setIfInBounds_toArray, List.set_cons_zero, List.set_cons_succ]
        refine pi_nil ?_
        replace HV := Lib.hid V1
        clear V1 hb6 hb7 hb8 hb9 hya
        go_wp2
        have hov : 0 < x1 → x1 ≤ R → x0 < c.b → ¬ c.b < overL c n0 x0 x1 := fun h1 h2 h3 => by
          have := over_room HC.out hlk.1 h1 (by rw [← HRR.out]; exact h2) hx0 h3
          omega
        have HOV := Lib.hid hov
        clear hov
        by_cases h1 : 0 < x1
        · skip
          by_cases h2 : x1 ≤ R
          · skip
            by_cases h3 : x0 < c.b
            · skip
              have hnot := HOV.out h1 h2 h3
              obtain ⟨O2, hO2⟩ : ∃ O2, O2 = overL c n0 x0 x1 := ⟨_, rfl⟩
              rw [← hO2] at hnot
              have HO2 := Lib.hid hO2
              clear hO2
              refine wp_region_pi [(0, false), (1, false), (2, false), (3, false), (4, false), (5, false), (6, false), (7, false), (8, false), (9, false), (10, false), (11, false), (12, false), (13, false), (14, false), (15, false), (16, false), (17, false), (18, false), (20, false), (21, false), (22, false), (19, true), (23, false), (24, false)] (by kernel_rfl) (by kernel_rfl) (by kernel_rfl) rfl (fun _ _ d _ _ h => by cases d <;> exact h) (fun Wd hBd => ?_)
              try simp only [Act.put, List.getElem_toArray, List.getElem_cons_zero, List.getElem_cons_succ, List.setIfInBounds_toArray, List.set_cons_zero, List.set_cons_succ]
              have V1 := HV.out.up hBd
              have hyb : ∀ w', Below Wd.heap.size Wd w' → w'.cell? ⟨w.heap.size, 3, none⟩ = some (.int .u64 c.b) := fun w' h => cell_up h (V1.ct.cell (i := 3) rfl)
              refine pi_q (v := ?_) rfl (by rfl) ?_ ?_
              rotate_left
              · intro w' hBw'
                first | (go_simp; done) | (go_simp; with_reducible rfl)
              try simp only [Act.put, List.getElem_toArray, List.getElem_cons_zero, List.getElem_cons_succ, List.setIfInBounds_toArray, List.set_cons_zero, List.set_cons_succ]
              refine pi_q (v := ?_) rfl (by rfl) ?_ ?_
              rotate_left
              · intro w' hBw'
                first | (go_simp; done) | (go_simp; with_reducible rfl)
              try simp only [Act.put, List.getElem_toArray, List.getElem_cons_zero, List.getElem_cons_succ, List.setIfInBounds_toArray, List.set_cons_zero, List.set_cons_succ]
              refine pi_q (v := ?_) rfl (by rfl) ?_ ?_
              rotate_left
              · intro w' hBw'
                first | (go_simp; done) | (go_simp; with_reducible rfl)
              try simp only [Act.put, List.getElem_toArray, List.getElem_cons_zero, List.getElem_cons_succ, List.setIfInBounds_toArray, List.set_cons_zero, List.set_cons_succ]
              refine pi_q (v := ?_) rfl (by rfl) ?_ ?_
              rotate_left
              · intro w' hBw'
                first | (go_simp; done) | (go_simp; with_reducible rfl)
              try simp only [Act.put, List.getElem_toArray, List.getElem_cons_zero, List.getElem_cons_succ, List.setIfInBounds_toArray, List.set_cons_zero, List.set_cons_succ]
              refine pi_q (v := ?_) rfl (by rfl) ?_ ?_
              rotate_left
              · intro w' hBw'
                first | (go_simp; done) | (go_simp; with_reducible rfl)
              try simp only [Act.put, List.getElem_toArray, List.getElem_cons_zero, List.getElem_cons_succ, List.setIfInBounds_toArray, List.set_cons_zero, List.set_cons_succ]
              refine pi_q (v := ?_) rfl (by rfl) ?_ ?_
              rotate_left
              · intro w' hBw'
                first | (go_simp; done) | (go_simp; with_reducible rfl)
              try simp only [Act.put, List.getElem_toArray, List.getElem_cons_zero, List.getElem_cons_succ, List.setIfInBounds_toArray, List.set_cons_zero, List.set_cons_succ]
              refine pi_q (v := ?_) rfl (by rfl) ?_ ?_
              rotate_left
              · intro w' hBw'
                first | (go_simp; done) | (go_simp; with_reducible rfl)
              try simp only [Act.put, List.getElem_toArray, List.getElem_cons_zero, List.getElem_cons_succ, List.setIfInBounds_toArray, List.set_cons_zero, List.set_cons_succ]
              refine pi_q (v := ?_) rfl (by rfl) ?_ ?_
              rotate_left
              · intro w' hBw'
                first | (go_simp; done) | (go_simp; with_reducible rfl)
              try simp only [Act.put, List.getElem_toArray, List.getElem_cons_zero, List.getElem_cons_succ, List.setIfInBounds_toArray, List.set_cons_zero, List.set_cons_succ]
              refine pi_q (v := ?_) rfl (by rfl) ?_ ?_
              rotate_left
              · intro w' hBw'
                first | (go_simp; done) | (go_simp; with_reducible rfl)
              try simp only [Act.put, List.getElem_toArray, List.getElem_cons_zero, List.getElem_cons_succ, List.setIfInBounds_toArray, List.set_cons_zero, List.set_cons_succ]
              refine pi_q (v := ?_) rfl (by rfl) ?_ ?_
              rotate_left
              · intro w' hBw'
                first | (go_simp; done) | (go_simp; with_reducible rfl)
              try simp only [Act.put, List.getElem_toArray, List.getElem_cons_zero, List.getElem_cons_succ, List.setIfInBounds_toArray, List.set_cons_zero, List.set_cons_succ]
              refine pi_q (v := ?_) rfl (by rfl) ?_ ?_
              rotate_left
              · intro w' hBw'
                first | (go_simp; done) | (go_simp; with_reducible rfl)
              try simp only [Act.put, List.getElem_toArray, List.getElem_cons_zero, List.getElem_cons_succ, List.setIfInBounds_toArray, List.set_cons_zero, List.set_cons_succ]
              refine pi_q (v := ?_) rfl (by rfl) ?_ ?_
              rotate_left
              · intro w' hBw'
                first | (go_simp; done) | (go_simp; with_reducible rfl)
              try simp only [Act.put, List.getElem_toArray, List.getElem_cons_zero, List.getElem_cons_succ, List.setIfInBounds_toArray, List.set_cons_zero, List.set_cons_succ]
              refine pi_q (v := ?_) rfl (by rfl) ?_ ?_
              rotate_left
              · intro w' hBw'
                first | (go_simp; done) | (go_simp; with_reducible rfl)
              try simp only [Act.put, List.getElem_toArray, List.getElem_cons_zero, List.getElem_cons_succ, List.setIfInBounds_toArray, List.set_cons_zero, List.set_cons_succ]
              refine pi_q (v := ?_) rfl (by rfl) ?_ ?_
              rotate_left
              · intro w' hBw'
                first | (go_simp; done) | (go_simp; with_reducible rfl)
              try simp only [Act.put, List.getElem_toArray, List.getElem_cons_zero, List.getElem_cons_succ, List.setIfInBounds_toArray, List.set_cons_zero, List.set_cons_succ]
              refine pi_q (v := ?_) rfl (by rfl) ?_ ?_
              rotate_left
              · intro w' hBw'
                first | (go_simp; done) | (go_simp; with_reducible rfl)
              try simp only [Act.put, List.getElem_toArray, List.getElem_cons_zero, List.getElem_cons_succ, List.setIfInBounds_toArray, List.set_cons_zero, List.set_cons_succ]
              refine pi_q (v := ?_) rfl (by rfl) ?_ ?_
              rotate_left
              · intro w' hBw'
                first | (go_simp; done) | (go_simp; with_reducible rfl)
              try simp only [Act.put, List.getElem_toArray, List.getElem_cons_zero, List.getElem_cons_succ, List.setIfInBounds_toArray, List.set_cons_zero, List.set_cons_succ]
              refine pi_load rfl (by rfl) 32 (.tmp 3) rfl w.heap.size 0 rfl (ctC c) _ V1.ct.range Try.underlying32 rfl (by kernel_rfl) ?_
              try simp only [Act.put, List.getElem_toArray, List.getElem_cons_zero, List.getElem_cons_succ, List.setIfInBounds_toArray, List.set_cons_zero, List.set_cons_succ]
              refine pi_q (v := ?_) rfl (by rfl) ?_ ?_
              rotate_left
              · intro w' hBw'
                first | (go_simp; done) | (go_simp; with_reducible rfl)
              try simp only [Act.put, List.getElem_toArray, List.getElem_cons_zero, List.getElem_cons_succ, List.setIfInBounds_toArray, List.set_cons_zero, List.set_cons_succ]
              refine pi_q (v := ?_) rfl (by rfl) ?_ ?_
              rotate_left
              · intro w' hBw'
                first | (go_simp; done) | (go_simp; with_reducible rfl)
              try simp only [Act.put, List.getElem_toArray, List.getElem_cons_zero, List.getElem_cons_succ, List.setIfInBounds_toArray, List.set_cons_zero, List.set_cons_succ]
              refine pi_q (v := ?_) rfl (by rfl) ?_ ?_
              rotate_left
              · intro w' hBw'
                first | (go_simp; done) | (go_simp; with_reducible rfl)
              try simp only [Act.put, List.getElem_toArray, List.getElem_cons_zero, List.getElem_cons_succ, List.setIfInBounds_toArray, List.set_cons_zero, List.set_cons_succ]
              refine pi_q (v := ?_) rfl (by rfl) ?_ ?_
              rotate_left
              · intro w' hBw'
                first | (go_simp; done) | (go_simp; with_reducible rfl)
              try simp only [Act.put, List.getElem_toArray, List.getElem_cons_zero, List.getElem_cons_succ, List.setIfInBounds_toArray, List.set_cons_zero, List.set_cons_succ]
              refine pi_q (v := ?_) rfl (by rfl) ?_ ?_
              rotate_left
              · intro w' hBw'
                first | (go_simp; done) | (go_simp; with_reducible rfl)
              try simp only [Act.put, List.getElem_toArray, List.getElem_cons_zero, List.getElem_cons_succ, List.setIfInBounds_toArray, List.set_cons_zero, List.set_cons_succ]
              refine pi_c rfl (by rfl) (fun K hK => ?_)
              go_simp
              refine (vOver_c c HC.out x0 x1 hx0 hx1 (by rw [← HN0.out]; exact hlk.1) _ V1.led).mono ?_
              rw [← HN0.out, ← HO2.out]
              rintro en w6 ⟨rfl, hb6⟩
              go_wp2_with fail
              refine hK.out _ _ hb6 ?_
              clear hK K
              try simp only [Act.put, List.getElem_toArray, List.getElem_cons_zero, List.getElem_cons_succ, List.setIfInBounds_toArray, List.set_cons_zero, List.set_cons_succ]
              replace V1 := V1.up hb6
              replace hyb : ∀ w', Below w6.heap.size w6 w' → w'.cell? ⟨w.heap.size, 3, none⟩ = some (.int .u64 c.b) := fun w' h => cell_up h (V1.ct.cell (i := 3) rfl)
              refine pi_q (v := ?_) rfl (by rfl) ?_ ?_
              rotate_left
              · intro w' hBw'
                first | (go_simp; done) | (go_simp; with_reducible rfl)
              try simp only [Act.put, List.getElem_toArray, List.getElem_cons_zero, List.getElem_cons_succ, List.setIfInBounds_toArray, List.set_cons_zero, List.set_cons_succ]
              refine pi_q (v := ?_) rfl (by rfl) ?_ ?_
              rotate_left
              · intro w' hBw'
                first | (go_simp; done) | (go_simp; with_reducible rfl)
              try simp only [Act.put, List.getElem_toArray, List.getElem_cons_zero, List.getElem_cons_succ, List.setIfInBounds_toArray, List.set_cons_zero, List.set_cons_succ]
              refine pi_nil ?_
              replace HV := Lib.hid V1
              clear V1 hyb
              go_wp2_with (go_at_call 5; refine (vWorks_c _).mono ?_; rintro en w10 ⟨rfl, hb⟩; replace HV := Lib.hid (HV.out.up hb))
              go_ret
              exact ⟨rfl, HV.out.below⟩
            · skip
              refine wp_region_pi [(0, false), (1, false), (2, false), (3, false), (4, false), (5, false), (6, false), (7, false), (8, false), (9, false), (10, false), (11, false), (12, false), (13, false), (14, false), (15, false), (16, false), (17, false), (18, false), (19, false), (20, false), (21, false), (22, false), (23, false), (24, false)] (by kernel_rfl) (by kernel_rfl) (by kernel_rfl) rfl (fun _ _ d _ _ h => by cases d <;> exact h) (fun Wd hBd => ?_)
              try simp only [Act.put, List.getElem_toArray, List.getElem_cons_zero, List.getElem_cons_succ, List.setIfInBounds_toArray, List.set_cons_zero, List.set_cons_succ]
              have V1 := HV.out.up hBd
              have hyb : ∀ w', Below Wd.heap.size Wd w' → w'.cell? ⟨w.heap.size, 3, none⟩ = some (.int .u64 c.b) := fun w' h => cell_up h (V1.ct.cell (i := 3) rfl)
              refine pi_q (v := ?_) rfl (by rfl) ?_ ?_
              rotate_left
              · intro w' hBw'
                first | (go_simp; done) | (go_simp; with_reducible rfl)
              try simp only [Act.put, List.getElem_toArray, List.getElem_cons_zero, List.getElem_cons_succ, List.setIfInBounds_toArray, List.set_cons_zero, List.set_cons_succ]
              refine pi_q (v := ?_) rfl (by rfl) ?_ ?_
              rotate_left
              · intro w' hBw'
                first | (go_simp; done) | (go_simp; with_reducible rfl)
              try simp only [Act.put, List.getElem_toArray, List.getElem_cons_zero, List.getElem_cons_succ, List.setIfInBounds_toArray, List.set_cons_zero, List.set_cons_succ]
              refine pi_q (v := ?_) rfl (by rfl) ?_ ?_
              rotate_left
              · intro w' hBw'
                first | (go_simp; done) | (go_simp; with_reducible rfl)
              try simp only [Act.put, List.getElem_toArray, List.getElem_cons_zero, List.getElem_cons_succ, List.setIfInBounds_toArray, List.set_cons_zero, List.set_cons_succ]
              refine pi_q (v := ?_) rfl (by rfl) ?_ ?_
              rotate_left
              · intro w' hBw'
                first | (go_simp; done) | (go_simp; with_reducible rfl)
              try simp only [Act.put, List.getElem_toArray, List.getElem_cons_zero, List.getElem_cons_succ, List.setIfInBounds_toArray, List.set_cons_zero, List.set_cons_succ]
              refine pi_q (v := ?_) rfl (by rfl) ?_ ?_
              rotate_left
              · intro w' hBw'
                first | (go_simp; done) | (go_simp; with_reducible rfl)
              try simp only [Act.put, List.getElem_toArray, List.getElem_cons_zero, List.getElem_cons_succ, List.setIfInBounds_toArray, List.set_cons_zero, List.set_cons_succ]
              refine pi_q (v := ?_) rfl (by rfl) ?_ ?_
              rotate_left
              · intro w' hBw'
                first | (go_simp; done) | (go_simp; with_reducible rfl)
              try simp only [Act.put, List.getElem_toArray, List.getElem_cons_zero, List.getElem_cons_succ, List.setIfInBounds_toArray, List.set_cons_zero, List.set_cons_succ]
              refine pi_q (v := ?_) rfl (by rfl) ?_ ?_
              rotate_left
              · intro w' hBw'
                first | (go_simp; done) | (go_simp; with_reducible rfl)
              try simp only [Act.put, List.getElem_toArray, List.getElem_cons_zero, List.getElem_cons_succ, List.setIfInBounds_toArray, List.set_cons_zero, List.set_cons_succ]
              refine pi_q (v := ?_) rfl (by rfl) ?_ ?_
              rotate_left
              · intro w' hBw'
                first | (go_simp; done) | (go_simp; with_reducible rfl)
              try simp only [Act.put, List.getElem_toArray, List.getElem_cons_zero, List.getElem_cons_succ, List.setIfInBounds_toArray, List.set_cons_zero, List.set_cons_succ]
              refine pi_q (v := ?_) rfl (by rfl) ?_ ?_
              rotate_left
              · intro w' hBw'
                first | (go_simp; done) | (go_simp; with_reducible rfl)
              try simp only [Act.put, List.getElem_toArray, List.getElem_cons_zero, List.getElem_cons_succ, List.setIfInBounds_toArray, List.set_cons_zero, List.set_cons_succ]
              refine pi_q (v := ?_) rfl (by rfl) ?_ ?_
              rotate_left
              · intro w' hBw'
                first | (go_simp; done) | (go_simp; with_reducible rfl)
              try simp only [Act.put, List.getElem_toArray, List.getElem_cons_zero, List.getElem_cons_succ, List.setIfInBounds_toArray, List.set_cons_zero, List.set_cons_succ]
              refine pi_q (v := ?_) rfl (by rfl) ?_ ?_
              rotate_left
              · intro w' hBw'
                first | (go_simp; done) | (go_simp; with_reducible rfl)
              try simp only [Act.put, List.getElem_toArray, List.getElem_cons_zero, List.getElem_cons_succ, List.setIfInBounds_toArray, List.set_cons_zero, List.set_cons_succ]
              refine pi_q (v := ?_) rfl (by rfl) ?_ ?_
              rotate_left
              · intro w' hBw'
                first | (go_simp; done) | (go_simp; with_reducible rfl)
              try simp only [Act.put, List.getElem_toArray, List.getElem_cons_zero, List.getElem_cons_succ, List.setIfInBounds_toArray, List.set_cons_zero, List.set_cons_succ]
              refine pi_q (v := ?_) rfl (by rfl) ?_ ?_
              rotate_left
              · intro w' hBw'
                first | (go_simp; done) | (go_simp; with_reducible rfl)
              try simp only [Act.put, List.getElem_toArray, List.getElem_cons_zero, List.getElem_cons_succ, List.setIfInBounds_toArray, List.set_cons_zero, List.set_cons_succ]
              refine pi_q (v := ?_) rfl (by rfl) ?_ ?_
              rotate_left
              · intro w' hBw'
                first | (go_simp; done) | (go_simp; with_reducible rfl)
              try simp only [Act.put, List.getElem_toArray, List.getElem_cons_zero, List.getElem_cons_succ, List.setIfInBounds_toArray, List.set_cons_zero, List.set_cons_succ]
              refine pi_q (v := ?_) rfl (by rfl) ?_ ?_
              rotate_left
              · intro w' hBw'
                first | (go_simp; done) | (go_simp; with_reducible rfl)
              try simp only [Act.put, List.getElem_toArray, List.getElem_cons_zero, List.getElem_cons_succ, List.setIfInBounds_toArray, List.set_cons_zero, List.set_cons_succ]
              refine pi_no rfl (by rfl) ?_
              try simp only [Act.put, List.getElem_toArray, List.getElem_cons_zero, List.getElem_cons_succ, List.setIfInBounds_toArray, List.set_cons_zero, List.set_cons_succ]
              refine pi_no rfl (by rfl) ?_
              try simp only [Act.put, List.getElem_toArray, List.getElem_cons_zero, List.getElem_cons_succ, List.setIfInBounds_toArray, List.set_cons_zero, List.set_cons_succ]
              refine pi_no rfl (by rfl) ?_
              try simp only [Act.put, List.getElem_toArray, List.getElem_cons_zero, List.getElem_cons_succ, List.setIfInBounds_toArray, List.set_cons_zero, List.set_cons_succ]
              refine pi_no rfl (by rfl) ?_
              try simp only [Act.put, List.getElem_toArray, List.getElem_cons_zero, List.getElem_cons_succ, List.setIfInBounds_toArray, List.set_cons_zero, List.set_cons_succ]
              refine pi_no rfl (by rfl) ?_
              try simp only [Act.put, List.getElem_toArray, List.getElem_cons_zero, List.getElem_cons_succ, List.setIfInBounds_toArray, List.set_cons_zero, List.set_cons_succ]
              refine pi_no rfl (by rfl) ?_
              try simp only [Act.put, List.getElem_toArray, List.getElem_cons_zero, List.getElem_cons_succ, List.setIfInBounds_toArray, List.set_cons_zero, List.set_cons_succ]
              refine pi_no rfl (by rfl) ?_
              try simp only [Act.put, List.getElem_toArray, List.getElem_cons_zero, List.getElem_cons_succ, List.setIfInBounds_toArray, List.set_cons_zero, List.set_cons_succ]
              refine pi_no rfl (by rfl) ?_
              try simp only [Act.put, List.getElem_toArray, List.getElem_cons_zero, List.getElem_cons_succ, List.setIfInBounds_toArray, List.set_cons_zero, List.set_cons_succ]
              refine pi_no rfl (by rfl) ?_
              try simp only [Act.put, List.getElem_toArray, List.getElem_cons_zero, List.getElem_cons_succ, List.setIfInBounds_toArray, List.set_cons_zero, List.set_cons_succ]
              refine pi_q (v := ?_) rfl (by rfl) ?_ ?_
              rotate_left
              · intro w' hBw'
                first | (go_simp; done) | (go_simp; with_reducible rfl)
              try simp only [Act.put, List.getElem_toArray, List.getElem_cons_zero, List.getElem_cons_succ, List.setIfInBounds_toArray, List.set_cons_zero, List.set_cons_succ]
              refine pi_nil ?_
              replace HV := Lib.hid V1
              clear V1 hyb
              go_wp2_with (go_at_call 5; refine (vWorks_c _).mono ?_; rintro en w10 ⟨rfl, hb⟩; replace HV := Lib.hid (HV.out.up hb))
              go_ret
              exact ⟨rfl, HV.out.below⟩
          · skip
            refine wp_region_pi [(0, false), (1, false), (2, false), (3, false), (4, false), (5, false), (6, false), (7, false), (8, false), (9, false), (10, false), (11, false), (12, false), (13, false), (14, false), (15, false), (16, false), (17, false), (18, false), (19, false), (20, false), (21, false), (22, false), (23, false), (24, false)] (by kernel_rfl) (by kernel_rfl) (by kernel_rfl) rfl (fun _ _ d _ _ h => by cases d <;> exact h) (fun Wd hBd => ?_)
            try simp only [Act.put, List.getElem_toArray, List.getElem_cons_zero, List.getElem_cons_succ, List.setIfInBounds_toArray, List.set_cons_zero, List.set_cons_succ]
            have V1 := HV.out.up hBd
            have hyb : ∀ w', Below Wd.heap.size Wd w' → w'.cell? ⟨w.heap.size, 3, none⟩ = some (.int .u64 c.b) := fun w' h => cell_up h (V1.ct.cell (i := 3) rfl)
            refine pi_q (v := ?_) rfl (by rfl) ?_ ?_
            rotate_left
            · intro w' hBw'
              first | (go_simp; done) | (go_simp; with_reducible rfl)
            try simp only [Act.put, List.getElem_toArray, List.getElem_cons_zero, List.getElem_cons_succ, List.setIfInBounds_toArray, List.set_cons_zero, List.set_cons_succ]
            refine pi_q (v := ?_) rfl (by rfl) ?_ ?_
            rotate_left
            · intro w' hBw'
              first | (go_simp; done) | (go_simp; with_reducible rfl)
            try simp only [Act.put, List.getElem_toArray, List.getElem_cons_zero, List.getElem_cons_succ, List.setIfInBounds_toArray, List.set_cons_zero, List.set_cons_succ]
            refine pi_q (v := ?_) rfl (by rfl) ?_ ?_
            rotate_left
            · intro w' hBw'
              first | (go_simp; done) | (go_simp; with_reducible rfl)
            try simp only [Act.put, List.getElem_toArray, List.getElem_cons_zero, List.getElem_cons_succ, List.setIfInBounds_toArray, List.set_cons_zero, List.set_cons_succ]
            refine pi_q (v := ?_) rfl (by rfl) ?_ ?_
            rotate_left
            · intro w' hBw'
              first | (go_simp; done) | (go_simp; with_reducible rfl)
            try simp only [Act.put, List.getElem_toArray, List.getElem_cons_zero, List.getElem_cons_succ, List.setIfInBounds_toArray, List.set_cons_zero, List.set_cons_succ]
            refine pi_q (v := ?_) rfl (by rfl) ?_ ?_
            rotate_left
            · intro w' hBw'
              first | (go_simp; done) | (go_simp; with_reducible rfl)
            try simp only [Act.put, List.getElem_toArray, List.getElem_cons_zero, List.getElem_cons_succ, List.setIfInBounds_toArray, List.set_cons_zero, List.set_cons_succ]
            refine pi_q (v := ?_) rfl (by rfl) ?_ ?_
            rotate_left
            · intro w' hBw'
              first | (go_simp; done) | (go_simp; with_reducible rfl)
            try simp only [Act.put, List.getElem_toArray, List.getElem_cons_zero, List.getElem_cons_succ, List.setIfInBounds_toArray, List.set_cons_zero, List.set_cons_succ]
            refine pi_q (v := ?_) rfl (by rfl) ?_ ?_
            rotate_left
            · intro w' hBw'
              first | (go_simp; done) | (go_simp; with_reducible rfl)
            try simp only [Act.put, List.getElem_toArray, List.getElem_cons_zero, List.getElem_cons_succ, List.setIfInBounds_toArray, List.set_cons_zero, List.set_cons_succ]
            refine pi_q (v := ?_) rfl (by rfl) ?_ ?_
            rotate_left
            · intro w' hBw'
              first | (go_simp; done) | (go_simp; with_reducible rfl)
            try simp only [Act.put, List.getElem_toArray, List.getElem_cons_zero, List.getElem_cons_succ, List.setIfInBounds_toArray, List.set_cons_zero, List.set_cons_succ]
            refine pi_no rfl (by rfl) ?_
            try simp only [Act.put, List.getElem_toArray, List.getElem_cons_zero, List.getElem_cons_succ, List.setIfInBounds_toArray, List.set_cons_zero, List.set_cons_succ]
            refine pi_no rfl (by rfl) ?_
            try simp only [Act.put, List.getElem_toArray, List.getElem_cons_zero, List.getElem_cons_succ, List.setIfInBounds_toArray, List.set_cons_zero, List.set_cons_succ]
            refine pi_no rfl (by rfl) ?_
            try simp only [Act.put, List.getElem_toArray, List.getElem_cons_zero, List.getElem_cons_succ, List.setIfInBounds_toArray, List.set_cons_zero, List.set_cons_succ]
            refine pi_no rfl (by rfl) ?_
            try simp only [Act.put, List.getElem_toArray, List.getElem_cons_zero, List.getElem_cons_succ, List.setIfInBounds_toArray, List.set_cons_zero, List.set_cons_succ]
            refine pi_no rfl (by rfl) ?_
            try simp only [Act.put, List.getElem_toArray, List.getElem_cons_zero, List.getElem_cons_succ, List.setIfInBounds_toArray, List.set_cons_zero, List.set_cons_succ]
            refine pi_q (v := ?_) rfl (by rfl) ?_ ?_
            rotate_left
            · intro w' hBw'
              first | (go_simp; done) | (go_simp; with_reducible rfl)
            try simp only [Act.put, List.getElem_toArray, List.getElem_cons_zero, List.getElem_cons_succ, List.setIfInBounds_toArray, List.set_cons_zero, List.set_cons_succ]
            refine pi_q (v := ?_) rfl (by rfl) ?_ ?_
            rotate_left
            · intro w' hBw'
              first | (go_simp; done) | (go_simp; with_reducible rfl)
            try simp only [Act.put, List.getElem_toArray, List.getElem_cons_zero, List.getElem_cons_succ, List.setIfInBounds_toArray, List.set_cons_zero, List.set_cons_succ]
            refine pi_no rfl (by rfl) ?_
            try simp only [Act.put, List.getElem_toArray, List.getElem_cons_zero, List.getElem_cons_succ, List.setIfInBounds_toArray, List.set_cons_zero, List.set_cons_succ]
            refine pi_no rfl (by rfl) ?_
            try simp only [Act.put, List.getElem_toArray, List.getElem_cons_zero, List.getElem_cons_succ, List.setIfInBounds_toArray, List.set_cons_zero, List.set_cons_succ]
            refine pi_no rfl (by rfl) ?_
            try simp only [Act.put, List.getElem_toArray, List.getElem_cons_zero, List.getElem_cons_succ, List.setIfInBounds_toArray, List.set_cons_zero, List.set_cons_succ]
            refine pi_no rfl (by rfl) ?_
            try simp only [Act.put, List.getElem_toArray, List.getElem_cons_zero, List.getElem_cons_succ, List.setIfInBounds_toArray, List.set_cons_zero, List.set_cons_succ]
            refine pi_no rfl (by rfl) ?_
            try simp only [Act.put, List.getElem_toArray, List.getElem_cons_zero, List.getElem_cons_succ, List.setIfInBounds_toArray, List.set_cons_zero, List.set_cons_succ]
            refine pi_no rfl (by rfl) ?_
            try simp only [Act.put, List.getElem_toArray, List.getElem_cons_zero, List.getElem_cons_succ, List.setIfInBounds_toArray, List.set_cons_zero, List.set_cons_succ]
            refine pi_no rfl (by rfl) ?_
            try simp only [Act.put, List.getElem_toArray, List.getElem_cons_zero, List.getElem_cons_succ, List.setIfInBounds_toArray, List.set_cons_zero, List.set_cons_succ]
            refine pi_no rfl (by rfl) ?_
            try simp only [Act.put, List.getElem_toArray, List.getElem_cons_zero, List.getElem_cons_succ, List.setIfInBounds_toArray, List.set_cons_zero, List.set_cons_succ]
            refine pi_no rfl (by rfl) ?_
            try simp only [Act.put, List.getElem_toArray, List.getElem_cons_zero, List.getElem_cons_succ, List.setIfInBounds_toArray, List.set_cons_zero, List.set_cons_succ]
            refine pi_q (v := ?_) rfl (by rfl) ?_ ?_
            rotate_left
            · intro w' hBw'
              first | (go_simp; done) | (go_simp; with_reducible rfl)
            try simp only [Act.put, List.getElem_toArray, List.getElem_cons_zero, List.getElem_cons_succ, List.setIfInBounds_toArray, List.set_cons_zero, List.set_cons_succ]
            refine pi_nil ?_
            replace HV := Lib.hid V1
            clear V1 hyb
            go_wp2_with (go_at_call 5; refine (vWorks_c _).mono ?_; rintro en w10 ⟨rfl, hb⟩; replace HV := Lib.hid (HV.out.up hb))
            go_ret
            exact ⟨rfl, HV.out.below⟩
        · skip
          refine wp_region_pi [(0, false), (1, false), (2, false), (3, false), (4, false), (5, false), (6, false), (7, false), (8, false), (9, false), (10, false), (11, false), (12, false), (13, false), (14, false), (15, false), (16, false), (17, false), (18, false), (19, false), (20, false), (21, false), (22, false), (23, false), (24, false)] (by kernel_rfl) (by kernel_rfl) (by kernel_rfl) rfl (fun _ _ d _ _ h => by cases d <;> exact h) (fun Wd hBd => ?_)
          try simp only [Act.put, List.getElem_toArray, List.getElem_cons_zero, List.getElem_cons_succ, List.setIfInBounds_toArray, List.set_cons_zero, List.set_cons_succ]
          have V1 := HV.out.up hBd
          have hyb : ∀ w', Below Wd.heap.size Wd w' → w'.cell? ⟨w.heap.size, 3, none⟩ = some (.int .u64 c.b) := fun w' h => cell_up h (V1.ct.cell (i := 3) rfl)
          refine pi_q (v := ?_) rfl (by rfl) ?_ ?_
          rotate_left
          · intro w' hBw'
            first | (go_simp; done) | (go_simp; with_reducible rfl)
          try simp only [Act.put, List.getElem_toArray, List.getElem_cons_zero, List.getElem_cons_succ, List.setIfInBounds_toArray, List.set_cons_zero, List.set_cons_succ]
          refine pi_q (v := ?_) rfl (by rfl) ?_ ?_
          rotate_left
          · intro w' hBw'
            first | (go_simp; done) | (go_simp; with_reducible rfl)
          try simp only [Act.put, List.getElem_toArray, List.getElem_cons_zero, List.getElem_cons_succ, List.setIfInBounds_toArray, List.set_cons_zero, List.set_cons_succ]
          refine pi_q (v := ?_) rfl (by rfl) ?_ ?_
          rotate_left
          · intro w' hBw'
            first | (go_simp; done) | (go_simp; with_reducible rfl)
          try simp only [Act.put, List.getElem_toArray, List.getElem_cons_zero, List.getElem_cons_succ, List.setIfInBounds_toArray, List.set_cons_zero, List.set_cons_succ]
          refine pi_no rfl (by rfl) ?_
          try simp only [Act.put, List.getElem_toArray, List.getElem_cons_zero, List.getElem_cons_succ, List.setIfInBounds_toArray, List.set_cons_zero, List.set_cons_succ]
          refine pi_no rfl (by rfl) ?_
          try simp only [Act.put, List.getElem_toArray, List.getElem_cons_zero, List.getElem_cons_succ, List.setIfInBounds_toArray, List.set_cons_zero, List.set_cons_succ]
          refine pi_no rfl (by rfl) ?_
          try simp only [Act.put, List.getElem_toArray, List.getElem_cons_zero, List.getElem_cons_succ, List.setIfInBounds_toArray, List.set_cons_zero, List.set_cons_succ]
          refine pi_q (v := ?_) rfl (by rfl) ?_ ?_
          rotate_left
          · intro w' hBw'
            first | (go_simp; done) | (go_simp; with_reducible rfl)
          try simp only [Act.put, List.getElem_toArray, List.getElem_cons_zero, List.getElem_cons_succ, List.setIfInBounds_toArray, List.set_cons_zero, List.set_cons_succ]
          refine pi_q (v := ?_) rfl (by rfl) ?_ ?_
          rotate_left
          · intro w' hBw'
            first | (go_simp; done) | (go_simp; with_reducible rfl)
          try simp only [Act.put, List.getElem_toArray, List.getElem_cons_zero, List.getElem_cons_succ, List.setIfInBounds_toArray, List.set_cons_zero, List.set_cons_succ]
          refine pi_no rfl (by rfl) ?_
          try simp only [Act.put, List.getElem_toArray, List.getElem_cons_zero, List.getElem_cons_succ, List.setIfInBounds_toArray, List.set_cons_zero, List.set_cons_succ]
          refine pi_no rfl (by rfl) ?_
          try simp only [Act.put, List.getElem_toArray, List.getElem_cons_zero, List.getElem_cons_succ, List.setIfInBounds_toArray, List.set_cons_zero, List.set_cons_succ]
          refine pi_no rfl (by rfl) ?_
          try simp only [Act.put, List.getElem_toArray, List.getElem_cons_zero, List.getElem_cons_succ, List.setIfInBounds_toArray, List.set_cons_zero, List.set_cons_succ]
          refine pi_no rfl (by rfl) ?_
          try simp only [Act.put, List.getElem_toArray, List.getElem_cons_zero, List.getElem_cons_succ, List.setIfInBounds_toArray, List.set_cons_zero, List.set_cons_succ]
          refine pi_no rfl (by rfl) ?_
          try simp only [Act.put, List.getElem_toArray, List.getElem_cons_zero, List.getElem_cons_succ, List.setIfInBounds_toArray, List.set_cons_zero, List.set_cons_succ]
          refine pi_q (v := ?_) rfl (by rfl) ?_ ?_
          rotate_left
          · intro w' hBw'
            first | (go_simp; done) | (go_simp; with_reducible rfl)
          try simp only [Act.put, List.getElem_toArray, List.getElem_cons_zero, List.getElem_cons_succ, List.setIfInBounds_toArray, List.set_cons_zero, List.set_cons_succ]
          refine pi_q (v := ?_) rfl (by rfl) ?_ ?_
          rotate_left
          · intro w' hBw'
            first | (go_simp; done) | (go_simp; with_reducible rfl)
          try simp only [Act.put, List.getElem_toArray, List.getElem_cons_zero, List.getElem_cons_succ, List.setIfInBounds_toArray, List.set_cons_zero, List.set_cons_succ]
          refine pi_no rfl (by rfl) ?_
          try simp only [Act.put, List.getElem_toArray, List.getElem_cons_zero, List.getElem_cons_succ, List.setIfInBounds_toArray, List.set_cons_zero, List.set_cons_succ]
          refine pi_no rfl (by rfl) ?_
          try simp only [Act.put, List.getElem_toArray, List.getElem_cons_zero, List.getElem_cons_succ, List.setIfInBounds_toArray, List.set_cons_zero, List.set_cons_succ]
          refine pi_no rfl (by rfl) ?_
          try simp only [Act.put, List.getElem_toArray, List.getElem_cons_zero, List.getElem_cons_succ, List.setIfInBounds_toArray, List.set_cons_zero, List.set_cons_succ]
          refine pi_no rfl (by rfl) ?_
          try simp only [Act.put, List.getElem_toArray, List.getElem_cons_zero, List.getElem_cons_succ, List.setIfInBounds_toArray, List.set_cons_zero, List.set_cons_succ]
          refine pi_no rfl (by rfl) ?_
          try simp only [Act.put, List.getElem_toArray, List.getElem_cons_zero, List.getElem_cons_succ, List.setIfInBounds_toArray, List.set_cons_zero, List.set_cons_succ]
          refine pi_no rfl (by rfl) ?_
          try simp only [Act.put, List.getElem_toArray, List.getElem_cons_zero, List.getElem_cons_succ, List.setIfInBounds_toArray, List.set_cons_zero, List.set_cons_succ]
          refine pi_no rfl (by rfl) ?_
          try simp only [Act.put, List.getElem_toArray, List.getElem_cons_zero, List.getElem_cons_succ, List.setIfInBounds_toArray, List.set_cons_zero, List.set_cons_succ]
          refine pi_no rfl (by rfl) ?_
          try simp only [Act.put, List.getElem_toArray, List.getElem_cons_zero, List.getElem_cons_succ, List.setIfInBounds_toArray, List.set_cons_zero, List.set_cons_succ]
          refine pi_no rfl (by rfl) ?_
          try simp only [Act.put, List.getElem_toArray, List.getElem_cons_zero, List.getElem_cons_succ, List.setIfInBounds_toArray, List.set_cons_zero, List.set_cons_succ]
          refine pi_q (v := ?_) rfl (by rfl) ?_ ?_
          rotate_left
          · intro w' hBw'
            first | (go_simp; done) | (go_simp; with_reducible rfl)
          try simp only [Act.put, List.getElem_toArray, List.getElem_cons_zero, List.getElem_cons_succ, List.setIfInBounds_toArray, List.set_cons_zero, List.set_cons_succ]
          refine pi_nil ?_
          replace HV := Lib.hid V1
          clear V1 hyb
          go_wp2_with (go_at_call 5; refine (vWorks_c _).mono ?_; rintro en w10 ⟨rfl, hb⟩; replace HV := Lib.hid (HV.out.up hb))
          go_ret
          exact ⟨rfl, HV.out.below⟩

/-- Numbers, out of their cells. -/
theorem u64s_of {H : Type} {enc : TypeId × Value → H} {w : World} {base : Nat} {spare : Nat → Bool} {held : Bool} {T : TypeId} (ht : Try.prog.underlying T = some (.int .u64)) {v : Value} {n : Nat} {vs : List Value} (hsl : Sl w 1 v n vs)
    (hl : ∀ i, i < n → ∀ (j : Nat) (U : TypeId), [T][j]? = some U → ∃ c, vs[i * 1 + j]? = some c ∧ Leaf enc Try.prog w base spare held U c) : ∃ l : List Int, vs = l.map (.int .u64) ∧ ∀ x ∈ l, 0 ≤ x ∧ x ≤ 18446744073709551615 := by
  have hlen : vs.length = n := by have := hsl.1; omega
  have : ∀ (vs : List Value), (∀ i, i < vs.length → ∃ x : Int, vs[i]? = some (.int .u64 x) ∧ 0 ≤ x ∧ x ≤ 18446744073709551615) → ∃ l : List Int, vs = l.map (.int .u64) ∧ ∀ x ∈ l, 0 ≤ x ∧ x ≤ 18446744073709551615 := by
    intro vs
    induction vs with
    | nil => intro _; exact ⟨[], rfl, fun x hx => by cases hx⟩
    | cons u vs ih =>
      intro h
      obtain ⟨x, hx, hb⟩ := h 0 (by simp)
      obtain ⟨l, hl, hb2⟩ := ih (fun i hi => by have := h (i + 1) (by simpa using hi); simpa using this)
      simp at hx
      refine ⟨x :: l, by rw [hx, hl]; rfl, fun y hy => ?_⟩
      rcases List.mem_cons.1 hy with rfl | hy
      · exact hb
      · exact hb2 y hy
  refine this vs (fun i hi => ?_)
  obtain ⟨c, hc, hL⟩ := hl i (by omega) 0 T rfl
  obtain ⟨m, rfl, hm⟩ := hL.int ht
  simp [Lit.wf, IntKind.min, IntKind.max, IntKind.signed, IntKind.bits] at hm
  exact ⟨m, by simpa using hc, by omega, by omega⟩
theorem volumeHolds_law {H : Type} {enc : TypeId × Value → H} {base : Nat} {spare : Nat → Bool} {held : Bool} (c0 c1 c2 c3 c4 x0 x1 : Int) (w0 : (Lit.int .u32 c0).wf = true) (w1 : (Lit.int .u32 c1).wf = true) (w2 : (Lit.int .u64 c2).wf = true) (wx0 : (Lit.int .u64 x0).wf = true) (wx1 : (Lit.int .u64 x1).wf = true)
    (w : World) {v : Value} {n : Nat} {vs : List Value} (hsl : Sl w 1 v n vs) (hl : ∀ i, i < n → ∀ (j : Nat) (U : TypeId), [28][j]? = some U → ∃ c, vs[i * 1 + j]? = some c ∧ Leaf enc Try.prog w base spare held U c) :
    Calls Try.prog 4 #[.agg #[.int .u32 c0, .int .u32 c1, .int .u64 c2, .int .u64 c3, .int .u64 c4], v, .agg #[.int .u64 x0, .int .u64 x1]] w (Ret (.bool true) w) := by
  obtain ⟨xs, rfl, hxs⟩ := u64s_of Try.underlying28 hsl hl
  simp [Lit.wf, IntKind.min, IntKind.max, IntKind.signed, IntKind.bits] at w0 w1 w2 wx0 wx1
  exact volumeHolds_c ⟨c0, c1, c2, c3, c4⟩ (by show c0 ≤ _; omega) (by show c1 ≤ _; omega) (by show 0 ≤ c2; omega) xs v n x0 x1 (by omega) (by omega) w hsl (fun x hx => (hxs x hx).1)
end Go.Proofs.Ytbeccnlcidokmaa
