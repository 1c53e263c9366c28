/-
  ContactPlays: the walk.
-/
import Derived.Test.YtgbpdchdcbnoaaaConX
import Derived.Test.YtgbpdchdcbnoaaaRecOpen
namespace Go.Proofs.Ytgbpdchdcbnoaaa
open Go.RowKit Vol
set_option linter.unusedSimpArgs false
set_option linter.unusedVariables false

/-- Both plans, as they stand: the plan in block B, the document's in block T. -/
structure PlI (w wr : World) (B T : Nat) (v u : Value) (L : List Ct) : Prop where
  below : Below w.heap.size w wr
  plan : PlanAt wr B v L
  p : RowAt wr T #[u] 47
  want : Sl wr 5 u L.length (L.flatMap ctC)
  inv : PInv L
  len : L.length ≤ 256
  low : w.heap.size ≤ B
  lowT : w.heap.size ≤ T
  ne : B ≠ T
theorem PlI.up {w wr w2 : World} {B T : Nat} {v u : Value} {L : List Ct} (h : PlI w wr B T v u L) (hb : Below wr.heap.size wr w2) : PlI w w2 B T v u L :=
  ⟨below_up h.below hb, h.plan.below hb, h.p.below hb, h.want.up hb, h.inv, h.len, h.low, h.lowT, h.ne⟩
/-- Behind act, and its result in block T. -/
theorem PlI.next {w wr w2 w3 : World} {B T : Nat} {v u v' u' : Value} {L L' : List Ct} (h : PlI w wr B T v u L) (hb : But (· = B) wr w2) (hp : PlanAt w2 B v' L') (hu : Sl w2 5 u' L'.length (L'.flatMap ctC)) (hi : PInv L') (hl : L'.length ≤ 256)
    (h3 : But (· = T) w2 w3) (hr : RowAt w3 T #[u'] 47) : PlI w w3 B T v' u' L' :=
  have p2 := h.p.but hb (fun e => h.ne e.symm)
  ⟨(h.below.trans (hb.below (fun j e => by have := h.low; omega) h.below.size)).trans (h3.below (fun j e => by have := h.lowT; omega) (Nat.le_trans h.below.size hb.size)), hp.past p2 (by simp) h3 h.ne, hr, hu.past p2 (by simp) h3, hi, hl, h.low, h.lowT, h.ne⟩

set_option maxHeartbeats 8000000 in
set_option maxRecDepth 100000 in
theorem contactPlays_c (l : List Ac) (v : Value) (n : Nat) (w : World) (hv : Sl w 8 v n (l.flatMap acC)) (hn : n ≤ 60) (hwf : ∀ a ∈ l, a.c.Wf) :
    Calls Try.prog 6 #[v] w (Ret (.bool true) w) := by
  have Hln := Lib.hid (Sl.recs (cells := acC) (sz := 8) (fun _ => rfl) (by decide) hv)
  obtain ⟨a, c, rfl⟩ := hv.len
  have hle : ¬ (60 : Int) < (n : Int) := by omega
  have HWF := Lib.hid hwf
  clear hwf
  have hTR := Lib.hid True.intro
  go_enter Try.func6, Try.ntmps6
  go_wp2_with (go_at_call 12; refine (pNew_c _).mono ?_; rintro en w1 ⟨rfl, hP1, hb1⟩)
  have I0 : PlI w (w1.alloc (.cells #[.slice none 0 0] 47)) w.heap.size w1.heap.size (.slice none 0 0) (.slice none 0 0) [] :=
    ⟨below_up hb1 (below_alloc _ _), hP1.below (below_alloc _ _), RowAt.new _ _ _, Sl.nil _ _, PInv.nil, by simp, Nat.le_refl _, hb1.size, by have := hP1.var.lt; omega⟩
  clear hP1 hb1
  go_loopw [5] (fun i wr => ∃ (k : Nat) (vv u : Value) (L : List Ct), k ≤ n ∧ i = .int .i64 k ∧ PlI w wr w.heap.size w1.heap.size vv u L) (fun i _ => n - (intOf i).toNat)
  case atStart => exact ⟨0, _, _, _, Nat.zero_le _, rfl, I0⟩
  case round =>
    clear I0
    obtain ⟨k, vv, u, L, hk, rfl, I⟩ := hrel
    by_cases hlt : k < n
    · have hltI : (k : Int) < (n : Int) := by omega
      have hlt' : k < l.length := by rw [Hln.out]; exact hlt
      obtain ⟨b, off, rfl, hr0⟩ := hv.rec_at (cells := acC) (sz := 8) (fun _ => rfl) hlt hlt'
      have hr := rangeAt_up I.below hr0
      have hb0 : ¬ w.heap.size ≤ b := by
        have : b < w.heap.size := World.block_lt_of_cell? w ⟨b, off + k * 8 + 0, none⟩ (hr0 0 _ rfl)
        omega
      have hw1 := HWF.out l[k] (List.getElem_mem hlt')
      generalize l[k] = x at *
      obtain ⟨au, cu, rfl⟩ := I.want.len
      have hTl := I.p.lt
      have hBl := I.plan.var.lt
      have hlw := I.lowT
      have hne := I.ne
      go_wp2
      refine wp_region_pt (fun i => i = w.heap.size ∨ wr.heap.size ≤ i) (.q 0 (.q 1 (.q 2 (.q 3 (.q 4 (.q 5 (.f 6 (.q 7 (.q 8 (.q 9 (.c 10 (.c 11 (.q 12 .done)))))) 10 (.c 6 (.q 7 (.q 8 (.q 9 (.c 11 (.q 12 .done))))))))))))) (by kernel_rfl) (by kernel_rfl) (by kernel_rfl) (by decide) (fun _ _ d _ _ h => by cases d <;> exact h) (fun Wd hBd => ?_)
      try simp only [Act.put, List.getElem_toArray, List.getElem_cons_zero, List.getElem_cons_succ, List.setIfInBounds_toArray, List.set_cons_zero, List.set_cons_succ]
      have I2 := I.up hBd
      have hz2 := hBd.size
      have hr2 := rangeAt_up hBd hr
      have cu4 : ∀ w', But (fun i => i = w.heap.size ∨ wr.heap.size ≤ i) Wd w' → w'.cell? ⟨w1.heap.size, 0, none⟩ = some (.slice au L.length cu) := fun w' hb => hb.cell (I2.p.cell (i := 0) rfl) (by omega)
      refine pt_q (v := ?_) rfl (by rfl) ?_ ?_
      rotate_left
      · intro w' hBw'
        first | (go_simp; done) | (go_simp; with_reducible rfl)
      try simp only [Act.put, List.getElem_toArray, List.getElem_cons_zero, List.getElem_cons_succ, List.setIfInBounds_toArray, List.set_cons_zero, List.set_cons_succ]
      refine pt_q (v := ?_) rfl (by rfl) ?_ ?_
      rotate_left
      · intro w' hBw'
        first | (go_simp; done) | (go_simp; with_reducible rfl)
      try simp only [Act.put, List.getElem_toArray, List.getElem_cons_zero, List.getElem_cons_succ, List.setIfInBounds_toArray, List.set_cons_zero, List.set_cons_succ]
      refine pt_q (v := ?_) rfl (by rfl) ?_ ?_
      rotate_left
      · intro w' hBw'
        first | (go_simp; done) | (go_simp; with_reducible rfl)
      try simp only [Act.put, List.getElem_toArray, List.getElem_cons_zero, List.getElem_cons_succ, List.setIfInBounds_toArray, List.set_cons_zero, List.set_cons_succ]
      refine pt_q (v := ?_) rfl (by rfl) ?_ ?_
      rotate_left
      · intro w' hBw'
        first | (go_simp; done) | (go_simp; with_reducible rfl)
      try simp only [Act.put, List.getElem_toArray, List.getElem_cons_zero, List.getElem_cons_succ, List.setIfInBounds_toArray, List.set_cons_zero, List.set_cons_succ]
      refine pt_q (v := ?_) rfl (by rfl) ?_ ?_
      rotate_left
      · intro w' hBw'
        first | (go_simp; done) | (go_simp; with_reducible rfl)
      try simp only [Act.put, List.getElem_toArray, List.getElem_cons_zero, List.getElem_cons_succ, List.setIfInBounds_toArray, List.set_cons_zero, List.set_cons_succ]
      refine pt_load rfl (by rfl) 51 (.tmp 24) rfl b (off + k * 8) rfl (acC x) _ hr2 (by omega) Try.underlying51 rfl (by kernel_rfl) ?_
      try simp only [Act.put, List.getElem_toArray, List.getElem_cons_zero, List.getElem_cons_succ, List.setIfInBounds_toArray, List.set_cons_zero, List.set_cons_succ]
      refine pt_f ?_ ?_
      · refine pt_step rfl (by rfl) (fun K hK => ?_)
        go_simp
        refine (act_c x hw1 _ I2.plan I2.want I2.inv (Nat.le_trans I2.len (by decide))).mono ?_
        rintro en w6 ⟨v', u', rfl, hp6, hs6, hb6⟩
        refine hK.out _ _ (hb6.mono fun _ _ e => .inl e) ?_
        clear hK K
        try simp only [Act.put, List.getElem_toArray, List.getElem_cons_zero, List.getElem_cons_succ, List.setIfInBounds_toArray, List.set_cons_zero, List.set_cons_succ]
        have hz6 := hb6.size
        obtain ⟨a6, c6, rfl⟩ := hs6.len
        refine pt_q (v := ?_) rfl (by rfl) ?_ ?_
        rotate_left
        · intro w' hBw'
          first | (go_simp; done) | (go_simp; with_reducible rfl)
        try simp only [Act.put, List.getElem_toArray, List.getElem_cons_zero, List.getElem_cons_succ, List.setIfInBounds_toArray, List.set_cons_zero, List.set_cons_succ]
        refine pt_q (v := ?_) rfl (by rfl) ?_ ?_
        rotate_left
        · intro w' hBw'
          first | (go_simp; done) | (go_simp; with_reducible rfl)
        try simp only [Act.put, List.getElem_toArray, List.getElem_cons_zero, List.getElem_cons_succ, List.setIfInBounds_toArray, List.set_cons_zero, List.set_cons_succ]
        refine pt_q (v := ?_) rfl (by rfl) ?_ ?_
        rotate_left
        · intro w' hBw'
          first | (go_simp; done) | (go_simp; with_reducible rfl)
        try simp only [Act.put, List.getElem_toArray, List.getElem_cons_zero, List.getElem_cons_succ, List.setIfInBounds_toArray, List.set_cons_zero, List.set_cons_succ]
        refine pt_c ?_
        refine pt_step rfl (by rfl) (fun K hK => ?_)
        go_simp
        refine hK.out _ _ (But.alloc _ _) ?_
        clear hK K
        try simp only [Act.put, List.getElem_toArray, List.getElem_cons_zero, List.getElem_cons_succ, List.setIfInBounds_toArray, List.set_cons_zero, List.set_cons_succ]
        have hR6 := RowAt.new w6 #[.slice none 0 0] 47
        have hbX := below_alloc w6 (.cells #[.slice none 0 0] 47)
        refine pt_c ?_
        refine pt_put_row rfl (by rfl) 47 _ _ rfl w6.heap.size [.slice a6 (stepA L x).length c6] rfl rfl hR6 rfl (by kernel_rfl) rfl (.inr (by omega)) (fun wA hRA hbA => ?_)
        try simp only [Act.put, List.getElem_toArray, List.getElem_cons_zero, List.getElem_cons_succ, List.setIfInBounds_toArray, List.set_cons_zero, List.set_cons_succ]
        have hA : But (· = w.heap.size) Wd wA := (hb6.trans (But.of_below hbX)).then hbA (fun j hj e => by omega)
        have hpA := (hp6.below hbX).past hR6 (by simp) hbA (by omega)
        have hsA := (hs6.up hbX).past hR6 (by simp) hbA
        refine pt_q (v := ?_) rfl (by rfl) ?_ ?_
        rotate_left
        · intro w' hBw'
          first | (go_simp; done) | (go_simp; with_reducible rfl)
        try simp only [Act.put, List.getElem_toArray, List.getElem_cons_zero, List.getElem_cons_succ, List.setIfInBounds_toArray, List.set_cons_zero, List.set_cons_succ]
        refine pt_done ?_
        have a6c := hRA.cell (i := 0) (v := .slice a6 (stepA L x).length c6) rfl
        have p4c := (I2.p.but hA (by omega)).cell (i := 0) (v := .slice au L.length cu) rfl
        have p4f := (I2.p.but hA (by omega)).fz 0
        have J := PlI.next I2 hA hpA hsA (I.inv.step x) (stepA_len x I.len) (But.setCell wA ⟨w1.heap.size, 0, none⟩ (.slice a6 (stepA L x).length c6) (.inl rfl)) ((I2.p.but hA (by omega)).set 0 (.slice a6 (stepA L x).length c6))
        clear hA hpA hsA hRA hbA cu4 hr2 I2 I hb6 hp6 hs6 hBd hz2 hz6 hbX
        go_wp2
        obtain ⟨wB, hwB⟩ : ∃ W, wA.setCell ⟨w1.heap.size, 0, none⟩ (.slice a6 (stepA L x).length c6) = W := ⟨_, rfl⟩
        rw [hwB] at J ⊢
        clear hwB a6c p4c p4f
        refine wp_region_pi [(0, false), (1, false), (2, false), (3, false), (4, false), (5, false), (6, false), (7, false), (8, false), (9, false), (10, false), (11, true), (12, false), (13, false)] (by kernel_rfl) (by kernel_rfl) (by kernel_rfl) rfl (fun _ _ d _ _ h => by cases d <;> exact h) (fun Wd hBd => ?_)
        try simp only [Act.put, List.getElem_toArray, List.getElem_cons_zero, List.getElem_cons_succ, List.setIfInBounds_toArray, List.set_cons_zero, List.set_cons_succ]
        have J2 := J.up hBd
        have hr10 := rangeAt_up J2.below hr0
        have c4 : ∀ w', Below Wd.heap.size Wd w' → w'.cell? ⟨w1.heap.size, 0, none⟩ = some (.slice a6 (stepA L x).length c6) := fun w' hb => cell_up hb (J2.p.cell (i := 0) rfl)
        refine pi_q (v := ?_) rfl (by rfl) ?_ ?_
        rotate_left
        · intro w' hBw'
          first | (go_simp; done) | (go_simp; with_reducible rfl)
        try simp only [Act.put, List.getElem_toArray, List.getElem_cons_zero, List.getElem_cons_succ, List.setIfInBounds_toArray, List.set_cons_zero, List.set_cons_succ]
        refine pi_q (v := ?_) rfl (by rfl) ?_ ?_
        rotate_left
        · intro w' hBw'
          first | (go_simp; done) | (go_simp; with_reducible rfl)
        try simp only [Act.put, List.getElem_toArray, List.getElem_cons_zero, List.getElem_cons_succ, List.setIfInBounds_toArray, List.set_cons_zero, List.set_cons_succ]
        refine pi_q (v := ?_) rfl (by rfl) ?_ ?_
        rotate_left
        · intro w' hBw'
          first | (go_simp; done) | (go_simp; with_reducible rfl)
        try simp only [Act.put, List.getElem_toArray, List.getElem_cons_zero, List.getElem_cons_succ, List.setIfInBounds_toArray, List.set_cons_zero, List.set_cons_succ]
        refine pi_q (v := ?_) rfl (by rfl) ?_ ?_
        rotate_left
        · intro w' hBw'
          first | (go_simp; done) | (go_simp; with_reducible rfl)
        try simp only [Act.put, List.getElem_toArray, List.getElem_cons_zero, List.getElem_cons_succ, List.setIfInBounds_toArray, List.set_cons_zero, List.set_cons_succ]
        refine pi_q (v := ?_) rfl (by rfl) ?_ ?_
        rotate_left
        · intro w' hBw'
          first | (go_simp; done) | (go_simp; with_reducible rfl)
        try simp only [Act.put, List.getElem_toArray, List.getElem_cons_zero, List.getElem_cons_succ, List.setIfInBounds_toArray, List.set_cons_zero, List.set_cons_succ]
        refine pi_q (v := ?_) rfl (by rfl) ?_ ?_
        rotate_left
        · intro w' hBw'
          first | (go_simp; done) | (go_simp; with_reducible rfl)
        try simp only [Act.put, List.getElem_toArray, List.getElem_cons_zero, List.getElem_cons_succ, List.setIfInBounds_toArray, List.set_cons_zero, List.set_cons_succ]
        refine pi_q (v := ?_) rfl (by rfl) ?_ ?_
        rotate_left
        · intro w' hBw'
          first | (go_simp; done) | (go_simp; with_reducible rfl)
        try simp only [Act.put, List.getElem_toArray, List.getElem_cons_zero, List.getElem_cons_succ, List.setIfInBounds_toArray, List.set_cons_zero, List.set_cons_succ]
        refine pi_q (v := ?_) rfl (by rfl) ?_ ?_
        rotate_left
        · intro w' hBw'
          first | (go_simp; done) | (go_simp; with_reducible rfl)
        try simp only [Act.put, List.getElem_toArray, List.getElem_cons_zero, List.getElem_cons_succ, List.setIfInBounds_toArray, List.set_cons_zero, List.set_cons_succ]
        refine pi_q (v := ?_) rfl (by rfl) ?_ ?_
        rotate_left
        · intro w' hBw'
          first | (go_simp; done) | (go_simp; with_reducible rfl)
        try simp only [Act.put, List.getElem_toArray, List.getElem_cons_zero, List.getElem_cons_succ, List.setIfInBounds_toArray, List.set_cons_zero, List.set_cons_succ]
        refine pi_q (v := ?_) rfl (by rfl) ?_ ?_
        rotate_left
        · intro w' hBw'
          first | (go_simp; done) | (go_simp; with_reducible rfl)
        try simp only [Act.put, List.getElem_toArray, List.getElem_cons_zero, List.getElem_cons_succ, List.setIfInBounds_toArray, List.set_cons_zero, List.set_cons_succ]
        refine pi_load rfl (by rfl) 51 (.tmp 39) rfl b (off + k * 8) rfl (acC x) _ hr10 Try.underlying51 rfl (by kernel_rfl) ?_
        try simp only [Act.put, List.getElem_toArray, List.getElem_cons_zero, List.getElem_cons_succ, List.setIfInBounds_toArray, List.set_cons_zero, List.set_cons_succ]
        refine pi_c rfl (by rfl) (fun K hK => ?_)
        go_simp
        refine (is_c _ x _ J2.plan J2.want (Nat.le_trans J2.len (by decide))).mono ?_
        rintro en w9 ⟨rfl, hb9⟩
        refine hK.out _ _ hb9 ?_
        clear hK K
        try simp only [Act.put, List.getElem_toArray, List.getElem_cons_zero, List.getElem_cons_succ, List.setIfInBounds_toArray, List.set_cons_zero, List.set_cons_succ]
        refine pi_q (v := ?_) rfl (by rfl) ?_ ?_
        rotate_left
        · intro w' hBw'
          first | (go_simp; done) | (go_simp; with_reducible rfl)
        try simp only [Act.put, List.getElem_toArray, List.getElem_cons_zero, List.getElem_cons_succ, List.setIfInBounds_toArray, List.set_cons_zero, List.set_cons_succ]
        refine pi_q (v := ?_) rfl (by rfl) ?_ ?_
        rotate_left
        · intro w' hBw'
          first | (go_simp; done) | (go_simp; with_reducible rfl)
        try simp only [Act.put, List.getElem_toArray, List.getElem_cons_zero, List.getElem_cons_succ, List.setIfInBounds_toArray, List.set_cons_zero, List.set_cons_succ]
        refine pi_nil ?_
        have K2 := J2.up hb9
        go_wp2
        go_roundw
        case rel => exact ⟨k + 1, _, _, _, by omega, by go_num, K2⟩
        case measure => simp [intOf]; omega
      · refine pt_step rfl (by rfl) (fun K hK => ?_)
        go_simp
        refine hK.out _ _ (But.alloc _ _) ?_
        clear hK K
        try simp only [Act.put, List.getElem_toArray, List.getElem_cons_zero, List.getElem_cons_succ, List.setIfInBounds_toArray, List.set_cons_zero, List.set_cons_succ]
        have hbX := below_alloc Wd (.cells #[.slice none 0 0] 47)
        have IX := I2.up hbX
        have hRX := RowAt.new Wd #[.slice none 0 0] 47
        refine pt_c ?_
        refine pt_step rfl (by rfl) (fun K hK => ?_)
        go_simp
        refine (act_c x hw1 _ IX.plan IX.want IX.inv (Nat.le_trans IX.len (by decide))).mono ?_
        rintro en w6 ⟨v', u', rfl, hp6, hs6, hb6⟩
        refine hK.out _ _ (hb6.mono fun _ _ e => .inl e) ?_
        clear hK K
        try simp only [Act.put, List.getElem_toArray, List.getElem_cons_zero, List.getElem_cons_succ, List.setIfInBounds_toArray, List.set_cons_zero, List.set_cons_succ]
        have hz6 := hb6.size
        obtain ⟨a6, c6, rfl⟩ := hs6.len
        have hR6 := hRX.but hb6 (by omega)
        refine pt_q (v := ?_) rfl (by rfl) ?_ ?_
        rotate_left
        · intro w' hBw'
          first | (go_simp; done) | (go_simp; with_reducible rfl)
        try simp only [Act.put, List.getElem_toArray, List.getElem_cons_zero, List.getElem_cons_succ, List.setIfInBounds_toArray, List.set_cons_zero, List.set_cons_succ]
        refine pt_q (v := ?_) rfl (by rfl) ?_ ?_
        rotate_left
        · intro w' hBw'
          first | (go_simp; done) | (go_simp; with_reducible rfl)
        try simp only [Act.put, List.getElem_toArray, List.getElem_cons_zero, List.getElem_cons_succ, List.setIfInBounds_toArray, List.set_cons_zero, List.set_cons_succ]
        refine pt_q (v := ?_) rfl (by rfl) ?_ ?_
        rotate_left
        · intro w' hBw'
          first | (go_simp; done) | (go_simp; with_reducible rfl)
        try simp only [Act.put, List.getElem_toArray, List.getElem_cons_zero, List.getElem_cons_succ, List.setIfInBounds_toArray, List.set_cons_zero, List.set_cons_succ]
        refine pt_c ?_
        refine pt_put_row rfl (by rfl) 47 _ _ rfl Wd.heap.size [.slice a6 (stepA L x).length c6] rfl rfl hR6 rfl (by kernel_rfl) rfl (.inr (by omega)) (fun wA hRA hbA => ?_)
        try simp only [Act.put, List.getElem_toArray, List.getElem_cons_zero, List.getElem_cons_succ, List.setIfInBounds_toArray, List.set_cons_zero, List.set_cons_succ]
        have hA : But (· = w.heap.size) Wd wA := ((But.of_below hbX).trans hb6).then hbA (fun j hj e => by omega)
        have hpA := hp6.past hR6 (by simp) hbA (by omega)
        have hsA := hs6.past hR6 (by simp) hbA
        refine pt_q (v := ?_) rfl (by rfl) ?_ ?_
        rotate_left
        · intro w' hBw'
          first | (go_simp; done) | (go_simp; with_reducible rfl)
        try simp only [Act.put, List.getElem_toArray, List.getElem_cons_zero, List.getElem_cons_succ, List.setIfInBounds_toArray, List.set_cons_zero, List.set_cons_succ]
        refine pt_done ?_
        have a6c := hRA.cell (i := 0) (v := .slice a6 (stepA L x).length c6) rfl
        have p4c := (I2.p.but hA (by omega)).cell (i := 0) (v := .slice au L.length cu) rfl
        have p4f := (I2.p.but hA (by omega)).fz 0
        have J := PlI.next I2 hA hpA hsA (I.inv.step x) (stepA_len x I.len) (But.setCell wA ⟨w1.heap.size, 0, none⟩ (.slice a6 (stepA L x).length c6) (.inl rfl)) ((I2.p.but hA (by omega)).set 0 (.slice a6 (stepA L x).length c6))
        clear hA hpA hsA hRA hbA cu4 hr2 I2 I hb6 hp6 hs6 hBd hz2 hz6 hbX
        go_wp2
        obtain ⟨wB, hwB⟩ : ∃ W, wA.setCell ⟨w1.heap.size, 0, none⟩ (.slice a6 (stepA L x).length c6) = W := ⟨_, rfl⟩
        rw [hwB] at J ⊢
        clear hwB a6c p4c p4f
        refine wp_region_pi [(0, false), (1, false), (2, false), (3, false), (4, false), (5, false), (6, false), (7, false), (8, false), (9, false), (10, false), (11, true), (12, false), (13, false)] (by kernel_rfl) (by kernel_rfl) (by kernel_rfl) rfl (fun _ _ d _ _ h => by cases d <;> exact h) (fun Wd hBd => ?_)
        try simp only [Act.put, List.getElem_toArray, List.getElem_cons_zero, List.getElem_cons_succ, List.setIfInBounds_toArray, List.set_cons_zero, List.set_cons_succ]
        have J2 := J.up hBd
        have hr10 := rangeAt_up J2.below hr0
        have c4 : ∀ w', Below Wd.heap.size Wd w' → w'.cell? ⟨w1.heap.size, 0, none⟩ = some (.slice a6 (stepA L x).length c6) := fun w' hb => cell_up hb (J2.p.cell (i := 0) rfl)
        refine pi_q (v := ?_) rfl (by rfl) ?_ ?_
        rotate_left
        · intro w' hBw'
          first | (go_simp; done) | (go_simp; with_reducible rfl)
        try simp only [Act.put, List.getElem_toArray, List.getElem_cons_zero, List.getElem_cons_succ, List.setIfInBounds_toArray, List.set_cons_zero, List.set_cons_succ]
        refine pi_q (v := ?_) rfl (by rfl) ?_ ?_
        rotate_left
        · intro w' hBw'
          first | (go_simp; done) | (go_simp; with_reducible rfl)
        try simp only [Act.put, List.getElem_toArray, List.getElem_cons_zero, List.getElem_cons_succ, List.setIfInBounds_toArray, List.set_cons_zero, List.set_cons_succ]
        refine pi_q (v := ?_) rfl (by rfl) ?_ ?_
        rotate_left
        · intro w' hBw'
          first | (go_simp; done) | (go_simp; with_reducible rfl)
        try simp only [Act.put, List.getElem_toArray, List.getElem_cons_zero, List.getElem_cons_succ, List.setIfInBounds_toArray, List.set_cons_zero, List.set_cons_succ]
        refine pi_q (v := ?_) rfl (by rfl) ?_ ?_
        rotate_left
        · intro w' hBw'
          first | (go_simp; done) | (go_simp; with_reducible rfl)
        try simp only [Act.put, List.getElem_toArray, List.getElem_cons_zero, List.getElem_cons_succ, List.setIfInBounds_toArray, List.set_cons_zero, List.set_cons_succ]
        refine pi_q (v := ?_) rfl (by rfl) ?_ ?_
        rotate_left
        · intro w' hBw'
          first | (go_simp; done) | (go_simp; with_reducible rfl)
        try simp only [Act.put, List.getElem_toArray, List.getElem_cons_zero, List.getElem_cons_succ, List.setIfInBounds_toArray, List.set_cons_zero, List.set_cons_succ]
        refine pi_q (v := ?_) rfl (by rfl) ?_ ?_
        rotate_left
        · intro w' hBw'
          first | (go_simp; done) | (go_simp; with_reducible rfl)
        try simp only [Act.put, List.getElem_toArray, List.getElem_cons_zero, List.getElem_cons_succ, List.setIfInBounds_toArray, List.set_cons_zero, List.set_cons_succ]
        refine pi_q (v := ?_) rfl (by rfl) ?_ ?_
        rotate_left
        · intro w' hBw'
          first | (go_simp; done) | (go_simp; with_reducible rfl)
        try simp only [Act.put, List.getElem_toArray, List.getElem_cons_zero, List.getElem_cons_succ, List.setIfInBounds_toArray, List.set_cons_zero, List.set_cons_succ]
        refine pi_q (v := ?_) rfl (by rfl) ?_ ?_
        rotate_left
        · intro w' hBw'
          first | (go_simp; done) | (go_simp; with_reducible rfl)
        try simp only [Act.put, List.getElem_toArray, List.getElem_cons_zero, List.getElem_cons_succ, List.setIfInBounds_toArray, List.set_cons_zero, List.set_cons_succ]
        refine pi_q (v := ?_) rfl (by rfl) ?_ ?_
        rotate_left
        · intro w' hBw'
          first | (go_simp; done) | (go_simp; with_reducible rfl)
        try simp only [Act.put, List.getElem_toArray, List.getElem_cons_zero, List.getElem_cons_succ, List.setIfInBounds_toArray, List.set_cons_zero, List.set_cons_succ]
        refine pi_q (v := ?_) rfl (by rfl) ?_ ?_
        rotate_left
        · intro w' hBw'
          first | (go_simp; done) | (go_simp; with_reducible rfl)
        try simp only [Act.put, List.getElem_toArray, List.getElem_cons_zero, List.getElem_cons_succ, List.setIfInBounds_toArray, List.set_cons_zero, List.set_cons_succ]
        refine pi_load rfl (by rfl) 51 (.tmp 39) rfl b (off + k * 8) rfl (acC x) _ hr10 Try.underlying51 rfl (by kernel_rfl) ?_
        try simp only [Act.put, List.getElem_toArray, List.getElem_cons_zero, List.getElem_cons_succ, List.setIfInBounds_toArray, List.set_cons_zero, List.set_cons_succ]
        refine pi_c rfl (by rfl) (fun K hK => ?_)
        go_simp
        refine (is_c _ x _ J2.plan J2.want (Nat.le_trans J2.len (by decide))).mono ?_
        rintro en w9 ⟨rfl, hb9⟩
        refine hK.out _ _ hb9 ?_
        clear hK K
        try simp only [Act.put, List.getElem_toArray, List.getElem_cons_zero, List.getElem_cons_succ, List.setIfInBounds_toArray, List.set_cons_zero, List.set_cons_succ]
        refine pi_q (v := ?_) rfl (by rfl) ?_ ?_
        rotate_left
        · intro w' hBw'
          first | (go_simp; done) | (go_simp; with_reducible rfl)
        try simp only [Act.put, List.getElem_toArray, List.getElem_cons_zero, List.getElem_cons_succ, List.setIfInBounds_toArray, List.set_cons_zero, List.set_cons_succ]
        refine pi_q (v := ?_) rfl (by rfl) ?_ ?_
        rotate_left
        · intro w' hBw'
          first | (go_simp; done) | (go_simp; with_reducible rfl)
        try simp only [Act.put, List.getElem_toArray, List.getElem_cons_zero, List.getElem_cons_succ, List.setIfInBounds_toArray, List.set_cons_zero, List.set_cons_succ]
        refine pi_nil ?_
        have K2 := J2.up hb9
        go_wp2
        go_roundw
        case rel => exact ⟨k + 1, _, _, _, by omega, by go_num, K2⟩
        case measure => simp [intOf]; omega
    · obtain rfl : k = n := by omega
      go_wp2_with (first
        | (go_at_call 21; refine (cNone_c _).mono ?_; rintro en w5 ⟨rfl, hb5⟩)
        | (go_at_call 11; refine (cWorks_c _).mono ?_; rintro en w6 ⟨rfl, hb6⟩))
      go_ret
      exact ⟨rfl, below_up (below_up I.below hb5) hb6⟩

theorem contactPlays_big (v : Value) (n : Nat) (w : World) (cs : List Value) (hv : Sl w 8 v n cs) (hn : 60 < n) : Calls Try.prog 6 #[v] w (Ret (.bool true) w) := by
  obtain ⟨a, c, rfl⟩ := hv.len
  have hle : (60 : Int) < (n : Int) := by omega
  go_enter Try.func6, Try.ntmps6
  go_wp2_with (go_at_call 11; refine (cWorks_c _).mono ?_; rintro en wx ⟨rfl, hbx⟩)
  go_ret
  exact ⟨rfl, hbx⟩

abbrev acTs : List TypeId := [3, 3, 22, 22, 23, 23, 23, 23]
/-- A call, out of its cells. -/
theorem ac_of {H : Type} {enc : TypeId × Value → H} {w : World} {base : Nat} {spare : Nat → Bool} {held : Bool} {f : Nat → Option Value}
    (hl : ∀ (j : Nat) (U : TypeId), acTs[j]? = some U → ∃ c, f j = some c ∧ Leaf enc Try.prog w base spare held U c) : ∃ x : Ac, x.c.Wf ∧ ∀ j, j < 8 → f j = (acC x)[j]? := by
  obtain ⟨c0, e0, L0⟩ := hl 0 _ rfl
  obtain ⟨c1, e1, L1⟩ := hl 1 _ rfl
  obtain ⟨c2, e2, L2⟩ := hl 2 _ rfl
  obtain ⟨c3, e3, L3⟩ := hl 3 _ rfl
  obtain ⟨c4, e4, L4⟩ := hl 4 _ rfl
  obtain ⟨c5, e5, L5⟩ := hl 5 _ rfl
  obtain ⟨c6, e6, L6⟩ := hl 6 _ rfl
  obtain ⟨c7, e7, L7⟩ := hl 7 _ rfl
  obtain ⟨m0, rfl, w0⟩ := Leaf.int Try.underlying3 L0
  obtain ⟨m1, rfl, w1⟩ := Leaf.int Try.underlying3 L1
  obtain ⟨m2, rfl, w2⟩ := Leaf.int Try.underlying22 L2
  obtain ⟨m3, rfl, w3⟩ := Leaf.int Try.underlying22 L3
  obtain ⟨m4, rfl, w4⟩ := Leaf.int Try.underlying23 L4
  obtain ⟨m5, rfl, w5⟩ := Leaf.int Try.underlying23 L5
  obtain ⟨m6, rfl, w6⟩ := Leaf.int Try.underlying23 L6
  obtain ⟨m7, rfl, w7⟩ := Leaf.int Try.underlying23 L7
  simp [Lit.wf, IntKind.min, IntKind.max, IntKind.signed, IntKind.bits] at w2 w3 w4 w5 w6
  refine ⟨⟨m0, m1, ⟨m2, m3, m4, m5, m6⟩, m7⟩, ⟨by show 0 ≤ m2; omega, by show m2 ≤ _; omega, by show 0 ≤ m3; omega, by show m3 ≤ _; omega, by show 0 ≤ m4; omega, by show 0 ≤ m5; omega, by show 0 ≤ m6; omega⟩, fun j hj => ?_⟩
  match j with
  | 0 => exact e0
  | 1 => exact e1
  | 2 => exact e2
  | 3 => exact e3
  | 4 => exact e4
  | 5 => exact e5
  | 6 => exact e6
  | 7 => exact e7
  | j + 8 => omega
theorem acs_of {H : Type} {enc : TypeId × Value → H} {w : World} {base : Nat} {spare : Nat → Bool} {held : Bool} {v : Value} {n : Nat} {vs : List Value} (hsl : Sl w 8 v n vs)
    (hl : ∀ i, i < n → ∀ (j : Nat) (U : TypeId), acTs[j]? = some U → ∃ c, vs[i * 8 + j]? = some c ∧ Leaf enc Try.prog w base spare held U c) : ∃ l : List Ac, vs = l.flatMap acC ∧ ∀ x ∈ l, x.c.Wf :=
  recs_of (cells := acC) (good := fun x => x.c.Wf) (sz := 8) (fun _ => rfl) n vs hsl.1 fun i hi => ac_of (hl i hi)
theorem contactPlays_law {H : Type} {enc : TypeId × Value → H} {w : World} {base : Nat} {spare : Nat → Bool} {held : Bool} {v : Value} {n : Nat} {vs : List Value} (hs : Sl w 8 v n vs)
    (hl : ∀ i, i < n → ∀ (j : Nat) (U : TypeId), acTs[j]? = some U → ∃ c, vs[i * 8 + j]? = some c ∧ Leaf enc Try.prog w base spare held U c) : Calls Try.prog 6 #[v] w (Ret (.bool true) w) := by
  by_cases hn : 60 < n
  · exact contactPlays_big v n w vs hs hn
  · obtain ⟨l, rfl, hwf⟩ := acs_of hs hl
    exact contactPlays_c l v n w hs (by omega) hwf
end Go.Proofs.Ytgbpdchdcbnoaaa
