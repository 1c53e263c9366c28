/-
  DiskPlays: the walk.
-/
import Derived.Test.YtekpjbablcoahaaDiskZDE
import Derived.Test.YtekpjbablcoahaaDiskN
namespace Go.Proofs.Ytekpjbablcoahaa
open Go.RowKit Go.Maps Dk
set_option linter.unusedSimpArgs false
set_option linter.unusedVariables false

theorem row3 {w : World} {T : Nat} {a b c : Value} (h : RowAt w T #[a, b, c] 47) (x y z : Value) : RowAt (((w.setCell ⟨T, 0, none⟩ x).setCell ⟨T, 1, none⟩ y).setCell ⟨T, 2, none⟩ z) T #[x, y, z] 47 := ((h.set 0 x).set 1 y).set 2 z
theorem but3 (w : World) (T : Nat) (x y z : Value) : But (· = T) w (((w.setCell ⟨T, 0, none⟩ x).setCell ⟨T, 1, none⟩ y).setCell ⟨T, 2, none⟩ z) :=
  ((But.setCell (O := (· = T)) w ⟨T, 0, none⟩ x (.inl rfl)).trans (But.setCell (O := (· = T)) (w.setCell ⟨T, 0, none⟩ x) ⟨T, 1, none⟩ y (.inl rfl))).trans (But.setCell (O := (· = T)) ((w.setCell ⟨T, 0, none⟩ x).setCell ⟨T, 1, none⟩ y) ⟨T, 2, none⟩ z (.inl rfl))
theorem RowAt.other_but {w w2 : World} {H : Nat} {cs : Array Value} {T : TypeId} {O : Nat → Prop} (h : RowAt w H cs T) (hb : But O w w2) (hO : ¬ O H) : RowAt w2 H cs T := (hb.same _ h.lt hO).trans h
theorem stepR_len (r : RDisk) (x : Ac) : (stepR r x).W.length ≤ r.W.length + 1 := by
  have hw : ∀ k n s, (wrR r k n s).W.length ≤ r.W.length + 1 := fun k n s => by
    unfold wrR
    split
    · simp
    · omega
  unfold stepR
  repeat' split
  all_goals first | exact hw _ _ _ | simp
/-- Both disks, as they stand: the disk in blocks B, M, the document's in block T. -/
structure PyI (w wr : World) (B M T : Nat) (d : Disk) (la : Option Addr) (lc : Nat) (wa : Option Addr) (wc : Nat) (r : RDisk) (m : Nat) : Prop where
  below : Below w.heap.size w wr
  disk : ∃ u, DiskAt wr B M u d
  p : RowAt wr T #[.slice la r.L.length lc, .slice wa r.W.length wc, .int .i64 r.armed] 47
  want : RefAt wr (.agg #[.slice la r.L.length lc, .slice wa r.W.length wc, .int .i64 r.armed]) r
  rel : Rel d r
  len : r.W.length ≤ m
  low : w.heap.size ≤ B ∧ w.heap.size ≤ M ∧ w.heap.size ≤ T
  ne : T ≠ B ∧ T ≠ M
  lt : B < wr.heap.size ∧ M < wr.heap.size
theorem PyI.up {w wr w2 : World} {B M T : Nat} {d : Disk} {la wa : Option Addr} {lc wc : Nat} {r : RDisk} {m : Nat} (h : PyI w wr B M T d la lc wa wc r m) (hb : Below wr.heap.size wr w2) : PyI w w2 B M T d la lc wa wc r m :=
  ⟨below_up h.below hb, h.disk.imp fun _ hd => hd.below hb, h.p.below hb, h.want.up hb, h.rel, h.len, h.low, h.ne, by have := hb.size; have := h.lt; omega⟩
/-- Behind act, and its result in block T. -/
theorem PyI.next {w wr w2 w3 : World} {B M T : Nat} {d d' : Disk} {la wa la' wa' : Option Addr} {lc wc lc' wc' : Nat} {r r' : RDisk} {m : Nat} (h : PyI w wr B M T d la lc wa wc r m) (hb : But (fun i => i = B ∨ i = M) wr w2) (hd : ∃ u, DiskAt w2 B M u d') (hu : RefAt w2 (.agg #[.slice la' r'.L.length lc', .slice wa' r'.W.length wc', .int .i64 r'.armed]) r') (hrel : Rel d' r') (hlen : r'.W.length ≤ m + 1)
    (h3 : But (· = T) w2 w3) (hr : RowAt w3 T #[.slice la' r'.L.length lc', .slice wa' r'.W.length wc', .int .i64 r'.armed] 47) : PyI w w3 B M T d' la' lc' wa' wc' r' (m + 1) :=
  have h1 := h.low
  have h2 := h.ne
  have p2 := (hb.same _ h.p.lt (by omega)).trans h.p
  ⟨(h.below.trans (hb.below (fun j e => by omega) h.below.size)).trans (h3.below (fun j e => by omega) (Nat.le_trans h.below.size hb.size)), hd.imp fun _ hd => hd.pastX p2 (by simp) (by omega) h3, hr, hu.pastR p2 h3, hrel, hlen, h1, h2, by have := hb.size; have := h3.size; have := h.lt; omega⟩
theorem PyI.start {w w2 : World} {B M : Nat} {u v : Value} {n : Nat} (hb : Below w.heap.size w w2) (hd : DiskAt w2 B M u ⟨-1, n, [], []⟩) (hr : RefAt w2 v ⟨List.replicate n zsec, [], -1⟩) (hn : n ≤ 4096) (hB : w.heap.size ≤ B) (hM : w.heap.size ≤ M) :
    ∃ la lc wa wc, v = .agg #[.slice la n lc, .slice wa 0 wc, .int .i64 (-1)] ∧ PyI w (w2.alloc (.cells #[.slice la n lc, .slice wa 0 wc, .int .i64 (-1)] 47)) B M w2.heap.size ⟨-1, n, [], []⟩ la lc wa wc ⟨List.replicate n zsec, [], -1⟩ 0 := by
  obtain ⟨la, lc, wa, wc, rfl⟩ := hr.apart
  have e : (List.replicate n zsec).length = n := List.length_replicate
  refine ⟨la, lc, wa, wc, by rw [show (RDisk.mk (List.replicate n zsec) [] (-1)).L.length = n from e]; rfl, ?_⟩
  have hba := below_alloc w2 (.cells #[.slice la n lc, .slice wa 0 wc, .int .i64 (-1)] 47)
  have hx := hr.up hba
  have h1 := hd.var.lt
  have h2 := hd.map.lt
  refine ⟨hb.trans (hba.mono hb.size), ⟨u, hd.below hba⟩, ?_, hx, Rel.new n hn, Nat.le_refl _, ⟨hB, hM, hb.size⟩, by omega, by simp only [World.size_alloc]; omega⟩
  have := RowAt.new w2 #[.slice la n lc, .slice wa 0 wc, .int .i64 (-1)] 47
  show RowAt _ _ #[.slice la (List.replicate n zsec).length lc, _, _] _
  rw [e]; exact this
theorem min_int2 (a b : Int) (ts : Array TypeId) (t : TypeId) (w : World) : (Builtin.min_ ts t #[.int .i64 a, .int .i64 b]).run Try.prog w = .ok (.int .i64 (if b < a then b else a)) w := by
  rw [run_min_int2]

set_option maxRecDepth 100000 in
theorem diskPlays_bad (s : Int) (a : Option Addr) (n c : Nat) (w : World) (h : s < 1 ∨ 4096 < s) : Calls Try.prog 4 #[.int .i64 s, .slice a n c] w (Ret (.bool true) w) := by
  have hm : (if (4097 : Int) < s then (4097 : Int) else s) < 1 ∨ 4096 < (if (4097 : Int) < s then (4097 : Int) else s) := by split <;> omega
  have hmin := min_int2 s 4097
  obtain ⟨m, hmm⟩ : ∃ m, (if (4097 : Int) < s then (4097 : Int) else s) = m := ⟨_, rfl⟩
  rw [hmm] at hm hmin
  have HM := Lib.hid hm
  have HS := Lib.hid h
  clear hmm hm h
  go_enter Try.func4, Try.ntmps4
  go_wp2_with (first
    | (go_at_call 7; refine (dNewBad_c s HS.out _).mono ?_; rintro en w1 ⟨rfl, hb1⟩)
    | (go_at_call 17; refine (rNewBad_c m HM.out _).mono ?_; rintro en w2 ⟨rfl, hb2⟩)
    | (go_at_call 8; refine (dNum_c _ _).mono ?_; rintro en w3 ⟨rfl, rfl⟩)
    | (go_at_call 6; refine (dWorks_c _).mono ?_; rintro en w4 ⟨rfl, hb4⟩))
  go_ret
  exact ⟨rfl, below_up (below_up (below_up hb1 hb2) (below_alloc _ _)) hb4⟩
set_option maxRecDepth 100000 in
theorem diskPlays_wide (s : Nat) (hs1 : 1 ≤ s) (hs2 : s ≤ 4096) (hs3 : 30 < s) (a : Option Addr) (n c : Nat) (w : World) : Calls Try.prog 4 #[.int .i64 (s : Int), .slice a n c] w (Ret (.bool true) w) := by
  have h30 : (30 : Int) < (s : Int) := by omega
  have d30 : decide ((30 : Int) < (s : Int)) = true := decide_eq_true h30
  have hmin := min_int2 (s : Int) 4097
  rw [if_neg (by omega)] at hmin
  have h1 : 1 ≤ s := hs1
  go_enter Try.func4, Try.ntmps4
  go_wp2_with (first
    | (go_at_call 7; refine (dNew_c (s : Int) (by omega) (by omega) _).mono ?_; rintro en w1 ⟨rfl, hD1, hb1⟩)
    | (go_at_call 17; refine (rNew_c s hs1 hs2 _).mono ?_; rintro en w2 ⟨v2, rfl, hR2, hb2⟩; obtain ⟨la, lc, wa, wc, rfl, I0⟩ := PyI.start (below_up hb1 hb2) (hD1.below hb2) hR2 hs2 (Nat.le_succ _) (Nat.le_refl _))
    | (go_at_call 19; obtain ⟨u3, hD3⟩ := I0.disk; refine (dLen_c _ hD3).mono ?_; rintro en w3 ⟨rfl, rfl⟩)
    | (go_at_call 8; refine (dNum_c _ _).mono ?_; rintro en w3 ⟨rfl, rfl⟩)
    | (go_at_call 6; refine (dWorks_c _).mono ?_; rintro en w4 ⟨rfl, hb4⟩))
  go_ret
  exact ⟨rfl, below_up I0.below hb4⟩
set_option maxRecDepth 100000 in
theorem diskPlays_many (s : Nat) (hs1 : 1 ≤ s) (hs3 : s ≤ 30) (l : List Ac) (v : Value) (n : Nat) (w : World) (hv : Sl w 5 v n (l.flatMap acC)) (hf : fewB l 40 = false) : Calls Try.prog 4 #[.int .i64 (s : Int), v] w (Ret (.bool true) w) := by
  obtain ⟨a, c, rfl⟩ := hv.len
  have hs2 : s ≤ 4096 := by omega
  have h30 : ¬ (30 : Int) < (s : Int) := by omega
  have d30 : decide ((30 : Int) < (s : Int)) = false := decide_eq_false h30
  have HF := Lib.hid hf
  clear hf
  have hmin := min_int2 (s : Int) 4097
  rw [if_neg (by omega)] at hmin
  have h1 : 1 ≤ s := hs1
  go_enter Try.func4, Try.ntmps4
  go_wp2_with (first
    | (go_at_call 7; refine (dNew_c (s : Int) (by omega) (by omega) _).mono ?_; rintro en w1 ⟨rfl, hD1, hb1⟩)
    | (go_at_call 17; refine (rNew_c s hs1 hs2 _).mono ?_; rintro en w2 ⟨v2, rfl, hR2, hb2⟩; obtain ⟨la, lc, wa, wc, rfl, I0⟩ := PyI.start (below_up hb1 hb2) (hD1.below hb2) hR2 hs2 (Nat.le_succ _) (Nat.le_refl _))
    | (go_at_call 18; have hfw := dFew_c l 40 (by decide) _ n _ (hv.up I0.below); rw [HF.out] at hfw; refine hfw.mono ?_; rintro en w5 ⟨rfl, hb5⟩; have I5 := I0.up hb5)
    | (go_at_call 19; obtain ⟨u3, hD3⟩ := I5.disk; refine (dLen_c _ hD3).mono ?_; rintro en w3 ⟨rfl, rfl⟩)
    | (go_at_call 8; refine (dNum_c _ _).mono ?_; rintro en w3 ⟨rfl, rfl⟩)
    | (go_at_call 6; refine (dWorks_c _).mono ?_; rintro en w4 ⟨rfl, hb4⟩))
  go_ret
  exact ⟨rfl, below_up I5.below hb4⟩
set_option maxHeartbeats 4000000 in
set_option maxRecDepth 100000 in
theorem diskPlays_c (s : Nat) (hs1 : 1 ≤ s) (hs3 : s ≤ 30) (l : List Ac) (v : Value) (n : Nat) (w : World) (hv : Sl w 5 v n (l.flatMap acC)) (hac : ∀ x ∈ l, AcAt w x) (hf : fewB l 40 = true) : Calls Try.prog 4 #[.int .i64 (s : Int), v] w (Ret (.bool true) w) := by
  have Hln := Lib.hid (Sl.recs (cells := acC) (sz := 5) (fun _ => rfl) (by decide) hv)
  obtain ⟨a, c, rfl⟩ := hv.len
  have hs2 : s ≤ 4096 := by omega
  have h30 : ¬ (30 : Int) < (s : Int) := by omega
  have d30 : decide ((30 : Int) < (s : Int)) = false := decide_eq_false h30
  have hn : n ≤ 40 := by
    unfold fewB at hf
    rw [Bool.and_eq_true] at hf
    have := of_decide_eq_true hf.2
    rw [Hln.out] at this; exact this
  have HOK := Lib.hid (show ∀ x ∈ l, acOk x = true by
    unfold fewB at hf
    rw [Bool.and_eq_true] at hf
    exact List.all_eq_true.1 hf.1)
  have HAC := Lib.hid hac
  have HF := Lib.hid hf
  clear hf hac
  have hmin := min_int2 (s : Int) 4097
  rw [if_neg (by omega)] at hmin
  have h1 : 1 ≤ s := hs1
  go_enter Try.func4, Try.ntmps4
  go_wp2_with (first
    | (go_at_call 7; refine (dNew_c (s : Int) (by omega) (by omega) _).mono ?_; rintro en w1 ⟨rfl, hD1, hb1⟩)
    | (go_at_call 17; refine (rNew_c s hs1 hs2 _).mono ?_; rintro en w2 ⟨v2, rfl, hR2, hb2⟩; obtain ⟨la, lc, wa, wc, rfl, I0⟩ := PyI.start (below_up hb1 hb2) (hD1.below hb2) hR2 hs2 (Nat.le_succ _) (Nat.le_refl _))
    | (go_at_call 18; have hfw := dFew_c l 40 (by decide) _ n _ (hv.up I0.below); rw [HF.out] at hfw; refine hfw.mono ?_; rintro en w5 ⟨rfl, hb5⟩; have I5 := I0.up hb5))
  go_loopw [9] (fun i wr => ∃ (k : Nat) (d : Disk) (la : Option Addr) (lc : Nat) (wa : Option Addr) (wc : Nat) (r : RDisk), k ≤ n ∧ i = .int .i64 k ∧ PyI w wr (w.heap.size + 1) w.heap.size w2.heap.size d la lc wa wc r k) (fun i _ => n - (intOf i).toNat)
  case atStart => exact ⟨0, _, _, _, _, _, _, Nat.zero_le _, rfl, I5⟩
  case round =>
    clear I0 I5 hR2 hD1 hb1 hb2 hb5
    obtain ⟨k, d, la, lc, wa, wc, r, hk, rfl, I⟩ := hrel
    have hlw := I.low
    have hne := I.ne
    have hlt3 := I.lt
    have hTl := I.p.lt
    by_cases hlt : k < n
    · have hltI : (k : Int) < (n : Int) := by omega
      have hlt' : k < l.length := by rw [Hln.out]; exact hlt
      obtain ⟨b, off, rfl, hr0⟩ := hv.rec_at (cells := acC) (sz := 5) (fun _ => rfl) hlt hlt'
      have hr := rangeAt_up I.below hr0
      have hb0 : b < w.heap.size := World.block_lt_of_cell? w ⟨b, off + k * 5 + 0, none⟩ (hr0 0 _ rfl)
      have hx0 := HAC.out l[k] (List.getElem_mem hlt')
      have hx1 := HOK.out l[k] (List.getElem_mem hlt')
      generalize l[k] = x at *
      have hx2 := hx0.up I.below
      have hsl := stepR_len r x
      have hWn : r.W.length ≤ 100000 := by have := I.len; omega
      have hact := fun u v w' (hd : DiskAt w' (w.heap.size + 1) w.heap.size u d) (hr : RefAt w' v r) (hx : AcAt w' x) => act_c x w' hd hr I.rel hx hWn hx1
      obtain ⟨R', hR'⟩ : ∃ R', stepR r x = R' := ⟨_, rfl⟩
      rw [hR'] at hact hsl
      have HACT := Lib.hid hact
      have HX2 := Lib.hid hx2
      have HR := Lib.hid hr
      have HSL := Lib.hid hsl
      clear hact hx2 hx0 hx1 hr hR' hsl
      go_wp2
      refine wp_region_pt (fun i => i = w.heap.size + 1 ∨ i = w.heap.size ∨ wr.heap.size ≤ i) (.q 0 (.q 1 (.q 2 (.q 3 (.q 4 (.q 5 (.f 6 (.q 7 (.q 8 (.q 9 (.c 10 (.c 11 (.q 12 .done)))))) 10 (.c 6 (.q 7 (.q 8 (.q 9 (.c 11 (.q 12 .done))))))))))))) (by kernel_rfl) (by kernel_rfl) (by kernel_rfl) (by decide) (fun _ _ d _ _ h => by cases d <;> exact h) (fun Wd hBd => ?_)
      try simp only [Act.put, List.getElem_toArray, List.getElem_cons_zero, List.getElem_cons_succ, List.setIfInBounds_toArray, List.set_cons_zero, List.set_cons_succ]
      have I2 := I.up hBd
      have hz2 := hBd.size
      have hr2 := rangeAt_up hBd HR.out
      have hxD := HX2.out.up hBd
      obtain ⟨uD, hDD⟩ := I2.disk
      have q0 : ∀ w', But (fun i => i = w.heap.size + 1 ∨ i = w.heap.size ∨ wr.heap.size ≤ i) Wd w' → w'.cell? ⟨w2.heap.size, 0, none⟩ = some (.slice la r.L.length lc) := fun w' hb => hb.cell (I2.p.cell (i := 0) rfl) (by omega)
      have q1 : ∀ w', But (fun i => i = w.heap.size + 1 ∨ i = w.heap.size ∨ wr.heap.size ≤ i) Wd w' → w'.cell? ⟨w2.heap.size, 1, none⟩ = some (.slice wa r.W.length wc) := fun w' hb => hb.cell (I2.p.cell (i := 1) rfl) (by omega)
      have q2 : ∀ w', But (fun i => i = w.heap.size + 1 ∨ i = w.heap.size ∨ wr.heap.size ≤ i) Wd w' → w'.cell? ⟨w2.heap.size, 2, none⟩ = some (.int .i64 r.armed) := fun w' hb => hb.cell (I2.p.cell (i := 2) rfl) (by omega)
      refine pt_q (v := ?_) rfl (by rfl) ?_ ?_
      rotate_left
      · intro w' hBw'
        first | (go_simp; done) | (go_simp; with_reducible rfl)
      try simp only [Act.put, List.getElem_toArray, List.getElem_cons_zero, List.getElem_cons_succ, List.setIfInBounds_toArray, List.set_cons_zero, List.set_cons_succ]
      refine pt_q (v := ?_) rfl (by rfl) ?_ ?_
      rotate_left
      · intro w' hBw'
        first | (go_simp; done) | (go_simp; with_reducible rfl)
      try simp only [Act.put, List.getElem_toArray, List.getElem_cons_zero, List.getElem_cons_succ, List.setIfInBounds_toArray, List.set_cons_zero, List.set_cons_succ]
      refine pt_q (v := ?_) rfl (by rfl) ?_ ?_
      rotate_left
      · intro w' hBw'
        first | (go_simp; done) | (go_simp; with_reducible rfl)
      try simp only [Act.put, List.getElem_toArray, List.getElem_cons_zero, List.getElem_cons_succ, List.setIfInBounds_toArray, List.set_cons_zero, List.set_cons_succ]
      refine pt_q (v := ?_) rfl (by rfl) ?_ ?_
      rotate_left
      · intro w' hBw'
        first | (go_simp; done) | (go_simp; with_reducible rfl)
      try simp only [Act.put, List.getElem_toArray, List.getElem_cons_zero, List.getElem_cons_succ, List.setIfInBounds_toArray, List.set_cons_zero, List.set_cons_succ]
      refine pt_q (v := ?_) rfl (by rfl) ?_ ?_
      rotate_left
      · intro w' hBw'
        first | (go_simp; done) | (go_simp; with_reducible rfl)
      try simp only [Act.put, List.getElem_toArray, List.getElem_cons_zero, List.getElem_cons_succ, List.setIfInBounds_toArray, List.set_cons_zero, List.set_cons_succ]
      refine pt_load rfl (by rfl) 54 (.tmp 65) rfl b (off + k * 5) rfl (acC x) _ hr2 (by omega) Try.underlying54 rfl (by kernel_rfl) ?_
      try simp only [Act.put, List.getElem_toArray, List.getElem_cons_zero, List.getElem_cons_succ, List.setIfInBounds_toArray, List.set_cons_zero, List.set_cons_succ]
      refine pt_f ?_ ?_
      · refine pt_step rfl (by rfl) (fun K hK => ?_)
        go_simp
        refine (HACT.out _ (.agg #[.slice la r.L.length lc, .slice wa r.W.length wc, .int .i64 r.armed]) _ hDD I2.want hxD).mono ?_
        rintro en w6 ⟨v6, u6, d6, rfl, hR6, hD6, hrel6, hb6⟩
        obtain ⟨a6, n6, a7, n7, rfl⟩ := hR6.apart
        refine hK.out _ _ (hb6.mono fun _ _ e => e.elim .inl fun e => .inr (.inl e)) ?_
        clear hK K
        try simp only [Act.put, List.getElem_toArray, List.getElem_cons_zero, List.getElem_cons_succ, List.setIfInBounds_toArray, List.set_cons_zero, List.set_cons_succ]
        have hz6 := hb6.size
        refine pt_q (v := ?_) rfl (by rfl) ?_ ?_
        rotate_left
        · intro w' hBw'
          first | (go_simp; done) | (go_simp; with_reducible rfl)
        try simp only [Act.put, List.getElem_toArray, List.getElem_cons_zero, List.getElem_cons_succ, List.setIfInBounds_toArray, List.set_cons_zero, List.set_cons_succ]
        refine pt_q (v := ?_) rfl (by rfl) ?_ ?_
        rotate_left
        · intro w' hBw'
          first | (go_simp; done) | (go_simp; with_reducible rfl)
        try simp only [Act.put, List.getElem_toArray, List.getElem_cons_zero, List.getElem_cons_succ, List.setIfInBounds_toArray, List.set_cons_zero, List.set_cons_succ]
        refine pt_q (v := ?_) rfl (by rfl) ?_ ?_
        rotate_left
        · intro w' hBw'
          first | (go_simp; done) | (go_simp; with_reducible rfl)
        try simp only [Act.put, List.getElem_toArray, List.getElem_cons_zero, List.getElem_cons_succ, List.setIfInBounds_toArray, List.set_cons_zero, List.set_cons_succ]
        refine pt_c ?_
        refine pt_step rfl (by rfl) (fun K hK => ?_)
        go_simp
        refine hK.out _ _ (But.alloc _ _) ?_
        clear hK K
        try simp only [Act.put, List.getElem_toArray, List.getElem_cons_zero, List.getElem_cons_succ, List.setIfInBounds_toArray, List.set_cons_zero, List.set_cons_succ]
        have hRX := RowAt.new w6 #[.slice none 0 0, .slice none 0 0, .int .i64 0] 47
        have hbX := below_alloc w6 (.cells #[.slice none 0 0, .slice none 0 0, .int .i64 0] 47)
        refine pt_c ?_
        refine pt_put_row rfl (by rfl) 47 _ _ rfl (w6.heap.size) [(.slice a6 R'.L.length n6), (.slice a7 R'.W.length n7), (.int .i64 R'.armed)] rfl rfl hRX rfl (by kernel_rfl) rfl (.inr (.inr (by omega))) (fun wA hRA hbA => ?_)
        try simp only [Act.put, List.getElem_toArray, List.getElem_cons_zero, List.getElem_cons_succ, List.setIfInBounds_toArray, List.set_cons_zero, List.set_cons_succ]
        have hA : But (fun i => i = w.heap.size + 1 ∨ i = w.heap.size) Wd wA := (hb6.trans (But.of_below hbX)).then hbA (fun j hj e => by omega)
        have hDA := (hD6.below hbX).pastX hRX (by simp) (by omega) hbA
        have hRfA := (hR6.up hbX).pastR hRX hbA
        refine pt_q (v := ?_) rfl (by rfl) ?_ ?_
        rotate_left
        · intro w' hBw'
          first | (go_simp; done) | (go_simp; with_reducible rfl)
        try simp only [Act.put, List.getElem_toArray, List.getElem_cons_zero, List.getElem_cons_succ, List.setIfInBounds_toArray, List.set_cons_zero, List.set_cons_succ]
        refine pt_done ?_
        have rA0 := hRA.cell (i := 0) rfl
        have rA1 := hRA.cell (i := 1) rfl
        have rA2 := hRA.cell (i := 2) rfl
        have pA := (hA.same _ I2.p.lt (by omega)).trans I2.p
        have k0 := RowAt.cell pA (i := 0) rfl
        have k1 := RowAt.cell pA (i := 1) rfl
        have k2 := RowAt.cell pA (i := 2) rfl
        have f0 := RowAt.fz pA 0
        have f1 := RowAt.fz pA 1
        have f2 := RowAt.fz pA 2
        have hb3 := but3 wA w2.heap.size (.slice a6 R'.L.length n6) (.slice a7 R'.W.length n7) (.int .i64 R'.armed)
        have hrow := row3 pA (.slice a6 R'.L.length n6) (.slice a7 R'.W.length n7) (.int .i64 R'.armed)
        have J := Lib.hid (PyI.next I2 hA ⟨_, hDA⟩ hRfA hrel6 (by have := HSL.out; have := I.len; omega) hb3 hrow)
        clear hA hDA hRfA hrel6 hb3 hrow pA hRA hbA q0 q1 q2 hr2 I2 I hb6 hD6 hR6 hBd hz2 hz6 hbX hRX hDD hxD
        go_wp2
        go_roundw
        case rel => exact ⟨k + 1, _, _, _, _, _, _, by omega, by go_num, J.out⟩
        case measure => simp [intOf]; omega
      · refine pt_step rfl (by rfl) (fun K hK => ?_)
        go_simp
        refine hK.out _ _ (But.alloc _ _) ?_
        clear hK K
        try simp only [Act.put, List.getElem_toArray, List.getElem_cons_zero, List.getElem_cons_succ, List.setIfInBounds_toArray, List.set_cons_zero, List.set_cons_succ]
        have hbX := below_alloc Wd (.cells #[.slice none 0 0, .slice none 0 0, .int .i64 0] 47)
        have hRX0 := RowAt.new Wd #[.slice none 0 0, .slice none 0 0, .int .i64 0] 47
        refine pt_c ?_
        refine pt_step rfl (by rfl) (fun K hK => ?_)
        go_simp
        refine (HACT.out _ (.agg #[.slice la r.L.length lc, .slice wa r.W.length wc, .int .i64 r.armed]) _ (hDD.below hbX) (I2.want.up hbX) (hxD.up hbX)).mono ?_
        rintro en w6 ⟨v6, u6, d6, rfl, hR6, hD6, hrel6, hb6⟩
        obtain ⟨a6, n6, a7, n7, rfl⟩ := hR6.apart
        refine hK.out _ _ (hb6.mono fun _ _ e => e.elim .inl fun e => .inr (.inl e)) ?_
        clear hK K
        try simp only [Act.put, List.getElem_toArray, List.getElem_cons_zero, List.getElem_cons_succ, List.setIfInBounds_toArray, List.set_cons_zero, List.set_cons_succ]
        have hz6 := hb6.size
        have hRX := RowAt.other_but hRX0 hb6 (by omega)
        refine pt_q (v := ?_) rfl (by rfl) ?_ ?_
        rotate_left
        · intro w' hBw'
          first | (go_simp; done) | (go_simp; with_reducible rfl)
        try simp only [Act.put, List.getElem_toArray, List.getElem_cons_zero, List.getElem_cons_succ, List.setIfInBounds_toArray, List.set_cons_zero, List.set_cons_succ]
        refine pt_q (v := ?_) rfl (by rfl) ?_ ?_
        rotate_left
        · intro w' hBw'
          first | (go_simp; done) | (go_simp; with_reducible rfl)
        try simp only [Act.put, List.getElem_toArray, List.getElem_cons_zero, List.getElem_cons_succ, List.setIfInBounds_toArray, List.set_cons_zero, List.set_cons_succ]
        refine pt_q (v := ?_) rfl (by rfl) ?_ ?_
        rotate_left
        · intro w' hBw'
          first | (go_simp; done) | (go_simp; with_reducible rfl)
        try simp only [Act.put, List.getElem_toArray, List.getElem_cons_zero, List.getElem_cons_succ, List.setIfInBounds_toArray, List.set_cons_zero, List.set_cons_succ]
        refine pt_c ?_
        refine pt_put_row rfl (by rfl) 47 _ _ rfl (Wd.heap.size) [(.slice a6 R'.L.length n6), (.slice a7 R'.W.length n7), (.int .i64 R'.armed)] rfl rfl hRX rfl (by kernel_rfl) rfl (.inr (.inr (by omega))) (fun wA hRA hbA => ?_)
        try simp only [Act.put, List.getElem_toArray, List.getElem_cons_zero, List.getElem_cons_succ, List.setIfInBounds_toArray, List.set_cons_zero, List.set_cons_succ]
        have hA : But (fun i => i = w.heap.size + 1 ∨ i = w.heap.size) Wd wA := ((But.of_below hbX).trans hb6).then hbA (fun j hj e => by omega)
        have hDA := hD6.pastX hRX (by simp) (by omega) hbA
        have hRfA := hR6.pastR hRX hbA
        refine pt_q (v := ?_) rfl (by rfl) ?_ ?_
        rotate_left
        · intro w' hBw'
          first | (go_simp; done) | (go_simp; with_reducible rfl)
        try simp only [Act.put, List.getElem_toArray, List.getElem_cons_zero, List.getElem_cons_succ, List.setIfInBounds_toArray, List.set_cons_zero, List.set_cons_succ]
        refine pt_done ?_
        have rA0 := hRA.cell (i := 0) rfl
        have rA1 := hRA.cell (i := 1) rfl
        have rA2 := hRA.cell (i := 2) rfl
        have pA := (hA.same _ I2.p.lt (by omega)).trans I2.p
        have k0 := RowAt.cell pA (i := 0) rfl
        have k1 := RowAt.cell pA (i := 1) rfl
        have k2 := RowAt.cell pA (i := 2) rfl
        have f0 := RowAt.fz pA 0
        have f1 := RowAt.fz pA 1
        have f2 := RowAt.fz pA 2
        have hb3 := but3 wA w2.heap.size (.slice a6 R'.L.length n6) (.slice a7 R'.W.length n7) (.int .i64 R'.armed)
        have hrow := row3 pA (.slice a6 R'.L.length n6) (.slice a7 R'.W.length n7) (.int .i64 R'.armed)
        have J := Lib.hid (PyI.next I2 hA ⟨_, hDA⟩ hRfA hrel6 (by have := HSL.out; have := I.len; omega) hb3 hrow)
        clear hA hDA hRfA hrel6 hb3 hrow pA hRA hbA q0 q1 q2 hr2 I2 I hb6 hD6 hR6 hBd hz2 hz6 hbX hRX hDD hxD
        go_wp2
        go_roundw
        case rel => exact ⟨k + 1, _, _, _, _, _, _, by omega, by go_num, J.out⟩
        case measure => simp [intOf]; omega
    · obtain rfl : k = n := by omega
      have c0 := I.p.cell (i := 0) rfl
      have c1 := I.p.cell (i := 1) rfl
      have c2 := I.p.cell (i := 2) rfl
      have hWn : r.W.length ≤ 100000 := by have := I.len; omega
      obtain ⟨uD, hDD⟩ := I.disk
      go_wp2_with (first
        | (go_at_call 21; refine (is_c _ hDD I.want I.rel hWn).mono ?_; rintro en w4 ⟨rfl, hb4⟩)
        | (go_at_call 22; refine (dNoneL_c _).mono ?_; rintro en w5 ⟨rfl, hb5⟩)
        | (go_at_call 6; refine (dWorks_c _).mono ?_; rintro en w6 ⟨rfl, hb6⟩))
      go_ret
      exact ⟨rfl, below_up (below_up (below_up I.below hb4) hb5) hb6⟩
end Go.Proofs.Ytekpjbablcoahaa
