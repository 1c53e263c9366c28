/-
  The contract of the reference's Add.
-/
import Derived.Test.YtgbpdchdcbnoaaaConP
namespace Go.Proofs.Ytgbpdchdcbnoaaa
open Go.RowKit Vol
set_option linter.unusedSimpArgs false
set_option linter.unusedVariables false

theorem own0 (w : World) {base k : Nat} (hb : base ≤ w.heap.size) (hk : k = w.heap.size) : (w.alloc (.cells #[] 27)).ownsRow base 27 5 (.slice (some ⟨k, 0, none⟩) 0 0) 0 [] := by
  subst hk
  exact World.ownsRow_lit w #[] 0 hb (by decide) rfl
/-- What the reference's Add has at hand. -/
structure RaW (w w1 : World) (v : Value) (c : Ct) : Prop where
  below : Below w.heap.size w w1
  p : RowAt w1 w.heap.size #[v] 47
  c : RowAt w1 (w.heap.size + 1) (ctC c).toArray 27
  r : RowAt w1 (w.heap.size + 1 + 1) #[.slice none 0 0] 47
theorem RaW.up {w w1 w2 : World} {v : Value} {c : Ct} (h : RaW w w1 v c) (hb : Below w1.heap.size w1 w2) : RaW w w2 v c := ⟨below_up h.below hb, h.p.below hb, h.c.below hb, h.r.below hb⟩
theorem RaW.start (w : World) (v : Value) (c : Ct) : RaW w (((w.alloc (.cells #[v] 47)).alloc (.cells (ctC c).toArray 27)).alloc (.cells #[.slice none 0 0] 47)) v c := by
  have hB3 : Below w.heap.size w (((w.alloc (.cells #[v] 47)).alloc (.cells (ctC c).toArray 27)).alloc (.cells #[.slice none 0 0] 47)) := ((below_alloc w _).alloc (by simp) _).alloc (by simp; omega) _
  have h2 := RowAt.new (w.alloc (.cells #[v] 47)) (ctC c).toArray 27
  rw [World.size_alloc] at h2
  have h3 := RowAt.new ((w.alloc (.cells #[v] 47)).alloc (.cells (ctC c).toArray 27)) #[.slice none 0 0] 47
  rw [World.size_alloc, World.size_alloc] at h3
  exact ⟨hB3, ((RowAt.new w _ _).below (below_alloc _ _)).below (below_alloc _ _), h2.below (below_alloc _ _), h3⟩

set_option maxHeartbeats 4000000 in
set_option maxRecDepth 100000 in
theorem rAdd_c (L : List Ct) (v : Value) (n : Nat) (c : Ct) (w : World) (hv : Sl w 5 v n (L.flatMap ctC)) (hN : n ≤ 100000) :
    Calls Try.prog 46 #[.agg #[v], ctV c] w fun en w' => ∃ v', en = .returned (.tuple #[.agg #[v'], .int .i64 (addF L c).1]) ∧
      Sl w' 5 v' (addF L c).2.length ((addF L c).2.flatMap ctC) ∧ Below w.heap.size w w' ∧ (v' = v ∨ ∀ k, v'.ownBlock = some k → w.heap.size ≤ k ∧ k < w'.heap.size) := by
  have Hln := Lib.hid (Sl.recs (cells := ctC) (sz := 5) (fun _ => rfl) (by decide) hv)
  have hn := hv.n_max
  obtain ⟨av, cv, rfl⟩ := hv.len
  have V0 := RaW.start w (.slice av n cv) c
  have hR := fun w => ctRightR_c c w
  cases hok : okB c with
  | false =>
    have ha : addF L c = (2, L) := by unfold addF; rw [hok]; simp
    rw [ha]
    rw [hok] at hR
    clear ha
    go_enter Try.func46, Try.ntmps46
    go_wp2_with (first
      | (refine wpList_load_mid rfl 27 (.tmp 3) rfl (w.heap.size + 1) 0 rfl (ctC c) _ V0.c.range Try.underlying27 rfl (by kernel_rfl) ?_)
      | (go_at_call 10; refine (hR _).mono ?_; rintro en w1 ⟨rfl, hb⟩; have V1 := V0.up hb; have p1 := V1.p.cell (i := 0) (v := .slice av n cv) rfl; have rr := V1.r.cell (i := 0) (v := .slice none 0 0) rfl; have fr := V1.r.fz 0))
    have hBf := V1.below.setCell (p := ⟨w.heap.size + 1 + 1, 0, none⟩) (by show w.heap.size ≤ w.heap.size + 1 + 1; omega) (.slice av n cv)
    exact bodyPost_ret (v := .tuple #[.agg #[.slice av n cv], .int .i64 2]) (by simp [results, Try.results46, go_sem, rr, fr]) rfl ⟨.slice av n cv, rfl, by rw [Hln.out]; exact hv.up hBf, hBf, .inl rfl⟩
  | true =>
    rw [hok] at hR
    go_enter Try.func46, Try.ntmps46
    go_wp2_with (first
      | (refine wpList_load_mid rfl 27 (.tmp 3) rfl (w.heap.size + 1) 0 rfl (ctC c) _ V0.c.range Try.underlying27 rfl (by kernel_rfl) ?_)
      | (go_at_call 10; refine (hR _).mono ?_; rintro en w1 ⟨rfl, hb⟩; have V1 := V0.up hb))
    clear V0 hR hb
    go_loopw [6] (fun i wr => ∃ k : Nat, k ≤ n ∧ i = .int .i64 k ∧ RowKit.Hid (∀ j (hj : j < L.length), j < k → btwB c.from_ c.to (fun a b => Clk.bothB a b c.a c.b) L[j] = false) ∧ RaW w wr (.slice av n cv) c) (fun i _ => n - (intOf i).toNat)
    case atStart => exact ⟨0, Nat.zero_le _, rfl, Lib.hid (fun j hj h => by omega), V1⟩
    case round =>
      clear V1
      obtain ⟨k, hk, rfl, Hno, V⟩ := hrel
      have c0 := V.p.cell (i := 0) (v := .slice av n cv) rfl
      by_cases hlt : k < n
      · have hltI : (k : Int) < (n : Int) := by omega
        have hlt' : k < L.length := by rw [Hln.out]; exact hlt
        obtain ⟨b, off, rfl, hr⟩ := (hv.up V.below).rec_at (cells := ctC) (sz := 5) (fun _ => rfl) hlt hlt'
        have Hidx := Lib.hid (fun h : btwB c.from_ c.to (fun a b => Clk.bothB a b c.a c.b) L[k] = true => (show clashB L c = true from List.any_eq_true.2 ⟨L[k], List.getElem_mem hlt', h⟩))
        have Hstep := Lib.hid (fun (h : btwB c.from_ c.to (fun a b => Clk.bothB a b c.a c.b) L[k] = false) j (hj' : j < L.length) (hj : j < k + 1) => (show btwB c.from_ c.to (fun a b => Clk.bothB a b c.a c.b) L[j] = false from by
          rcases Nat.lt_or_ge j k with h' | h'
          · exact Hno.out j hj' h'
          · obtain rfl : j = k := by omega
            exact h))
        generalize L[k] = x at *
        have hbo := fun w => bothR_c x.a x.b c.a c.b w
        have hq0 := V.c.cell (i := 0) rfl
        have hq1 := V.c.cell (i := 1) rfl
        have hq2 := V.c.cell (i := 2) rfl
        have hq3 := V.c.cell (i := 3) rfl
        cases hb3 : Clk.bothB x.a x.b c.a c.b with
        | false =>
          have hbf : Clk.bothF x.a x.b c.a c.b = .agg #[.int .u64 0, .int .u64 0] := by unfold Clk.bothF; rw [hb3]; rfl
          rw [hb3, hbf] at hbo
          have Hp := Lib.hid (Hstep.out (by simp [btwB, hb3]))
          go_wp2_with (first
            | (refine wpList_load_mid rfl 27 (.tmp 25) rfl b (off + k * 5) rfl (ctC x) _ hr Try.underlying27 rfl (by kernel_rfl) ?_)
            | (go_at_call 68; refine (hbo _).mono ?_; rintro en w2 ⟨rfl, hbB⟩; have X2 := (RowAt.new wr (ctC x).toArray 27).below hbB; have V2 := (V.up (below_alloc wr (.cells (ctC x).toArray 27))).up hbB; have x0 := X2.cell (i := 0) rfl; have x1 := X2.cell (i := 1) rfl; have q0 := V2.c.cell (i := 0) rfl; have q1 := V2.c.cell (i := 1) rfl; have p0 := V2.p.cell (i := 0) rfl; have r0 := V2.r.cell (i := 0) rfl; have rf0 := V2.r.fz 0; have l1 := X2.lt; have l2 := V2.r.lt))
          go_roundw
          case rel => exact ⟨k + 1, by omega, by go_num, Hp, V2.up (below_alloc _ _)⟩
          case measure => simp [intOf]; omega
        | true =>
          have hbf : Clk.bothF x.a x.b c.a c.b = .agg #[.int .u64 (Clk.maxI x.a c.a), .int .u64 (Clk.minI x.b c.b)] := by unfold Clk.bothF; rw [hb3]; rfl
          rw [hb3, hbf] at hbo
          cases hb1 : (x.from_ == c.from_) with
          | false =>
            have e1 : ¬ x.from_ = c.from_ := by simpa using hb1
            have Hp := Lib.hid (Hstep.out (by simp [btwB, e1]))
            clear e1
            go_wp2_with (first
              | (refine wpList_load_mid rfl 27 (.tmp 25) rfl b (off + k * 5) rfl (ctC x) _ hr Try.underlying27 rfl (by kernel_rfl) ?_)
              | (go_at_call 68; refine (hbo _).mono ?_; rintro en w2 ⟨rfl, hbB⟩; have X2 := (RowAt.new wr (ctC x).toArray 27).below hbB; have V2 := (V.up (below_alloc wr (.cells (ctC x).toArray 27))).up hbB; have x0 := X2.cell (i := 0) rfl; have x1 := X2.cell (i := 1) rfl; have q0 := V2.c.cell (i := 0) rfl; have q1 := V2.c.cell (i := 1) rfl; have p0 := V2.p.cell (i := 0) rfl; have r0 := V2.r.cell (i := 0) rfl; have rf0 := V2.r.fz 0; have l1 := X2.lt; have l2 := V2.r.lt))
            go_roundw
            case rel => exact ⟨k + 1, by omega, by go_num, Hp, V2.up (below_alloc _ _)⟩
            case measure => simp [intOf]; omega
          | true =>
            have e1 : x.from_ = c.from_ := by simpa using hb1
            cases hb2 : (x.to == c.to) with
            | false =>
              have e2 : ¬ x.to = c.to := by simpa using hb2
              have Hp := Lib.hid (Hstep.out (by simp [btwB, e2]))
              clear e1 e2
              go_wp2_with (first
                | (refine wpList_load_mid rfl 27 (.tmp 25) rfl b (off + k * 5) rfl (ctC x) _ hr Try.underlying27 rfl (by kernel_rfl) ?_)
                | (go_at_call 68; refine (hbo _).mono ?_; rintro en w2 ⟨rfl, hbB⟩; have X2 := (RowAt.new wr (ctC x).toArray 27).below hbB; have V2 := (V.up (below_alloc wr (.cells (ctC x).toArray 27))).up hbB; have x0 := X2.cell (i := 0) rfl; have x1 := X2.cell (i := 1) rfl; have q0 := V2.c.cell (i := 0) rfl; have q1 := V2.c.cell (i := 1) rfl; have p0 := V2.p.cell (i := 0) rfl; have r0 := V2.r.cell (i := 0) rfl; have rf0 := V2.r.fz 0; have l1 := X2.lt; have l2 := V2.r.lt))
              go_roundw
              case rel => exact ⟨k + 1, by omega, by go_num, Hp, V2.up (below_alloc _ _)⟩
              case measure => simp [intOf]; omega
            | true =>
              have e2 : x.to = c.to := by simpa using hb2
              have hcl := Hidx.out (by simp [btwB, hb3, e1, e2])
              have ha : addF L c = (270, L) := by unfold addF; rw [hok, hcl]; simp
              have HA := Lib.hid ha
              clear ha hcl e1 e2
              go_wp2_with (first
                | (refine wpList_load_mid rfl 27 (.tmp 25) rfl b (off + k * 5) rfl (ctC x) _ hr Try.underlying27 rfl (by kernel_rfl) ?_)
                | (go_at_call 68; refine (hbo _).mono ?_; rintro en w2 ⟨rfl, hbB⟩; have X2 := (RowAt.new wr (ctC x).toArray 27).below hbB; have V2 := (V.up (below_alloc wr (.cells (ctC x).toArray 27))).up hbB; have x0 := X2.cell (i := 0) rfl; have x1 := X2.cell (i := 1) rfl; have q0 := V2.c.cell (i := 0) rfl; have q1 := V2.c.cell (i := 1) rfl; have p0 := V2.p.cell (i := 0) rfl; have r0 := V2.r.cell (i := 0) rfl; have rf0 := V2.r.fz 0; have l1 := X2.lt; have l2 := V2.r.lt))
              have hS := V2.below.setCell (p := ⟨w.heap.size + 1 + 1, 0, none⟩) (by show w.heap.size ≤ w.heap.size + 1 + 1; omega) (.slice (some ⟨b, off, none⟩) n cv)
              have hBf := hS.alloc hS.size (.cells #[.int .u64 (Clk.maxI x.a c.a), .int .u64 (Clk.minI x.b c.b)] 25)
              have RR := (V2.r.set 0 (.slice (some ⟨b, off, none⟩) n cv)).below (below_alloc _ (.cells #[.int .u64 (Clk.maxI x.a c.a), .int .u64 (Clk.minI x.b c.b)] 25))
              have rr := RR.cell (i := 0) rfl
              exact bodyPost_ret (v := .tuple #[.agg #[.slice (some ⟨b, off, none⟩) n cv], .int .i64 270]) (by simp [results, Try.results46, go_sem, rr]) rfl ⟨_, by rw [HA.out], by rw [HA.out, Hln.out]; exact hv.up hBf, hBf, .inl rfl⟩
      · obtain rfl : k = n := by omega
        have hcl : clashB L c = false := List.any_eq_false.2 (fun x hx => by obtain ⟨j, hj, rfl⟩ := List.getElem_of_mem hx; rw [Hno.out j hj (by rw [← Hln.out]; exact hj)]; simp)
        have HC := Lib.hid hcl
        clear hcl Hno hlt hk
        have hp0 := V.p.cell (i := 0) (v := .slice av k cv) rfl
        have hr0 := V.r.cell (i := 0) rfl
        have hf0 := V.r.fz 0
        by_cases hfull : 256 ≤ k
        · have hfI : (256 : Int) ≤ (k : Int) := by omega
          have HA := Lib.hid (show addF L c = (271, L) by unfold addF; rw [hok, HC.out, if_pos rfl, if_neg (by simp), if_pos (by rw [Hln.out]; exact hfull)])
          go_wp2
          have hBf := V.below.setCell (p := ⟨w.heap.size + 1 + 1, 0, none⟩) (by show w.heap.size ≤ w.heap.size + 1 + 1; omega) (.slice av k cv)
          have RR := V.r.set 0 (.slice av k cv)
          have rr := RR.cell (i := 0) rfl
          exact bodyPost_ret (v := .tuple #[.agg #[.slice av k cv], .int .i64 271]) (by simp [results, Try.results46, go_sem, rr]) rfl ⟨_, by rw [HA.out], by rw [HA.out, Hln.out]; exact hv.up hBf, hBf, .inl rfl⟩
        · have hfI : (k : Int) < (256 : Int) := by omega
          have HA := Lib.hid (show addF L c = (0, insF L c) by unfold addF; rw [hok, HC.out, if_pos rfl, if_neg (by simp), if_neg (by rw [Hln.out]; exact hfull)])
          go_wp2
          go_loopw [10] (fun i w2 => ∃ j : Nat, j ≤ k ∧ i = .int .i64 j ∧ RowKit.Hid (∀ q (hq : q < L.length), q < j → decide (ordF L[q] c < 0) = true) ∧ RaW w w2 (.slice av k cv) c) (fun i _ => k - (intOf i).toNat)
          case atStart => exact ⟨0, Nat.zero_le _, rfl, Lib.hid (fun q hq h => by omega), V⟩
          case round =>
            clear V hp0 hr0 hf0
            obtain ⟨j, hj, rfl, Hyes, V⟩ := hrel
            have hO : ∀ i, i < wr.heap.size → ¬ wr.heap.size ≤ i := fun i h => by omega
            have hp := V.p.lt
            have hc := V.c.lt
            have hr := V.r.lt
            by_cases hlt : j < k
            · have hltI : (j : Int) < (k : Int) := by omega
              have hlt' : j < L.length := by rw [Hln.out]; exact hlt
              obtain ⟨b, off, rfl, hr⟩ := (hv.up V.below).rec_at (cells := ctC) (sz := 5) (fun _ => rfl) hlt hlt'
              have hbb : b < wr.heap.size := World.block_lt_of_cell? wr ⟨b, off + j * 5 + 0, none⟩ (hr 0 _ rfl)
              have Hend := Lib.hid (fun h : decide (ordF L[j] c < 0) = false => (show posF L c = j from takeWhile_len (by rw [Hln.out]; omega) (fun q hq hqj => Hyes.out q hq hqj) (fun _ => h)))
              have Hstep := Lib.hid (fun (h : decide (ordF L[j] c < 0) = true) q (hq : q < L.length) (hqj : q < j + 1) => (show decide (ordF L[q] c < 0) = true from by
                rcases Nat.lt_or_ge q j with h' | h'
                · exact Hyes.out q hq h'
                · obtain rfl : q = j := by omega
                  exact h))
              generalize L[j] = x at *
              have hah := fun w => rAhead_c x c w
              obtain ⟨bo, hbo⟩ : ∃ bo, bo = decide (ordF x c < 0) := ⟨_, rfl⟩
              rw [← hbo] at hah Hend Hstep
              clear hbo
              go_wp2
              refine wp_region_pt (fun i => wr.heap.size ≤ i) (.q 0 (.q 1 (.q 2 (.q 3 (.q 4 (.q 5 (.q 6 (.q 7 (.q 8 (.q 9 (.q 10 (.q 11 (.c 12 (.q 13 .done)))))))))))))) (by kernel_rfl) (by kernel_rfl) (by kernel_rfl) (by decide) (fun _ _ d _ _ h => by cases d <;> exact h) (fun Wd hBd => ?_)
              try simp only [Act.put, List.getElem_toArray, List.getElem_cons_zero, List.getElem_cons_succ, List.setIfInBounds_toArray, List.set_cons_zero, List.set_cons_succ]
              have V2 := V.up hBd
              have hr2 := rangeAt_up hBd hr
              have cp : ∀ w', But (fun i => wr.heap.size ≤ i) Wd w' → w'.cell? ⟨w.heap.size, 0, none⟩ = some (.slice (some ⟨b, off, none⟩) k cv) := fun w' hb => hb.cell (V2.p.cell (i := 0) rfl) (by omega)
              refine pt_q (v := ?_) rfl (by rfl) ?_ ?_
              rotate_left
              · intro w' hBw'
                first | (go_simp; done) | (go_simp; with_reducible rfl)
              try simp only [Act.put, List.getElem_toArray, List.getElem_cons_zero, List.getElem_cons_succ, List.setIfInBounds_toArray, List.set_cons_zero, List.set_cons_succ]
              refine pt_q (v := ?_) rfl (by rfl) ?_ ?_
              rotate_left
              · intro w' hBw'
                first | (go_simp; done) | (go_simp; with_reducible rfl)
              try simp only [Act.put, List.getElem_toArray, List.getElem_cons_zero, List.getElem_cons_succ, List.setIfInBounds_toArray, List.set_cons_zero, List.set_cons_succ]
              refine pt_q (v := ?_) rfl (by rfl) ?_ ?_
              rotate_left
              · intro w' hBw'
                first | (go_simp; done) | (go_simp; with_reducible rfl)
              try simp only [Act.put, List.getElem_toArray, List.getElem_cons_zero, List.getElem_cons_succ, List.setIfInBounds_toArray, List.set_cons_zero, List.set_cons_succ]
              refine pt_q (v := ?_) rfl (by rfl) ?_ ?_
              rotate_left
              · intro w' hBw'
                first | (go_simp; done) | (go_simp; with_reducible rfl)
              try simp only [Act.put, List.getElem_toArray, List.getElem_cons_zero, List.getElem_cons_succ, List.setIfInBounds_toArray, List.set_cons_zero, List.set_cons_succ]
              refine pt_q (v := ?_) rfl (by rfl) ?_ ?_
              rotate_left
              · intro w' hBw'
                first | (go_simp; done) | (go_simp; with_reducible rfl)
              try simp only [Act.put, List.getElem_toArray, List.getElem_cons_zero, List.getElem_cons_succ, List.setIfInBounds_toArray, List.set_cons_zero, List.set_cons_succ]
              refine pt_q (v := ?_) rfl (by rfl) ?_ ?_
              rotate_left
              · intro w' hBw'
                first | (go_simp; done) | (go_simp; with_reducible rfl)
              try simp only [Act.put, List.getElem_toArray, List.getElem_cons_zero, List.getElem_cons_succ, List.setIfInBounds_toArray, List.set_cons_zero, List.set_cons_succ]
              refine pt_q (v := ?_) rfl (by rfl) ?_ ?_
              rotate_left
              · intro w' hBw'
                first | (go_simp; done) | (go_simp; with_reducible rfl)
              try simp only [Act.put, List.getElem_toArray, List.getElem_cons_zero, List.getElem_cons_succ, List.setIfInBounds_toArray, List.set_cons_zero, List.set_cons_succ]
              refine pt_q (v := ?_) rfl (by rfl) ?_ ?_
              rotate_left
              · intro w' hBw'
                first | (go_simp; done) | (go_simp; with_reducible rfl)
              try simp only [Act.put, List.getElem_toArray, List.getElem_cons_zero, List.getElem_cons_succ, List.setIfInBounds_toArray, List.set_cons_zero, List.set_cons_succ]
              refine pt_q (v := ?_) rfl (by rfl) ?_ ?_
              rotate_left
              · intro w' hBw'
                first | (go_simp; done) | (go_simp; with_reducible rfl)
              try simp only [Act.put, List.getElem_toArray, List.getElem_cons_zero, List.getElem_cons_succ, List.setIfInBounds_toArray, List.set_cons_zero, List.set_cons_succ]
              refine pt_q (v := ?_) rfl (by rfl) ?_ ?_
              rotate_left
              · intro w' hBw'
                first | (go_simp; done) | (go_simp; with_reducible rfl)
              try simp only [Act.put, List.getElem_toArray, List.getElem_cons_zero, List.getElem_cons_succ, List.setIfInBounds_toArray, List.set_cons_zero, List.set_cons_succ]
              refine pt_load rfl (by rfl) 27 (.tmp 65) rfl b (off + j * 5) rfl (ctC x) _ hr2 (by omega) Try.underlying27 rfl (by kernel_rfl) ?_
              try simp only [Act.put, List.getElem_toArray, List.getElem_cons_zero, List.getElem_cons_succ, List.setIfInBounds_toArray, List.set_cons_zero, List.set_cons_succ]
              refine pt_load rfl (by rfl) 27 (.tmp 3) rfl (w.heap.size + 1) 0 rfl (ctC c) _ V2.c.range (by omega) Try.underlying27 rfl (by kernel_rfl) ?_
              try simp only [Act.put, List.getElem_toArray, List.getElem_cons_zero, List.getElem_cons_succ, List.setIfInBounds_toArray, List.set_cons_zero, List.set_cons_succ]
              refine pt_c ?_
              refine pt_step rfl (by rfl) (fun K hK => ?_)
              go_simp
              refine (hah _).mono ?_
              rintro en w3 ⟨rfl, hb3⟩
              refine hK.out _ _ (But.of_below hb3) ?_
              clear hK K
              try simp only [Act.put, List.getElem_toArray, List.getElem_cons_zero, List.getElem_cons_succ, List.setIfInBounds_toArray, List.set_cons_zero, List.set_cons_succ]
              refine pt_q (v := ?_) rfl (by rfl) ?_ ?_
              rotate_left
              · intro w' hBw'
                first | (go_simp; done) | (go_simp; with_reducible rfl)
              try simp only [Act.put, List.getElem_toArray, List.getElem_cons_zero, List.getElem_cons_succ, List.setIfInBounds_toArray, List.set_cons_zero, List.set_cons_succ]
              refine pt_done ?_
              have V3 := V2.up hb3
              cases bo with
              | true =>
                go_wp2
                go_roundw
                case rel => exact ⟨j + 1, by omega, by go_num, Lib.hid (Hstep.out rfl), V3⟩
                case measure => simp [intOf]; omega
              | false =>
                have hpos : posF L c = j := Hend.out rfl
                obtain ⟨a1, hs1, sl1⟩ := cut_h slC hv j (by omega)
                obtain ⟨a2, hs2, sl2⟩ := cut_l slC hv j (by omega)
                replace hs1 := fun w' => hs1 .i64 w'
                replace hs2 := fun w' => hs2 .i64 w'
                rw [ct_take] at sl1
                rw [ct_drop] at sl2
                have hbl := sl2.block_lt (by decide)
                have hwl := V3.below.size
                clear cp hltI hlt hlt' hr2 hr
                go_wp2
                refine wp_region_pt (fun i => i = w.heap.size + 1 + 1 ∨ w3.heap.size ≤ i) (.q 1 (.q 2 (.q 3 (.q 4 (.q 6 (.q 9 (.q 10 (.q 11 (.q 12 (.f 0 (.f 5 (.c 7 (.c 8 (.c 13 (.q 14 (.c 15 (.q 16 .done)))))) 7 (.c 5 (.c 8 (.c 13 (.q 14 (.c 15 (.q 16 .done))))))) 7 (.c 0 (.c 5 (.c 8 (.c 13 (.q 14 (.c 15 (.q 16 .done))))))))))))))))) (by kernel_rfl) (by kernel_rfl) (by kernel_rfl) (by decide) (fun _ _ d _ _ h => by cases d <;> exact h) (fun Wd hBd => ?_)
                try simp only [Act.put, List.getElem_toArray, List.getElem_cons_zero, List.getElem_cons_succ, List.setIfInBounds_toArray, List.set_cons_zero, List.set_cons_succ]
                have hrlt := V3.r.lt
                have V2 := V3.up hBd
                have hsz := hBd.size
                have cp : ∀ w', But (fun i => i = w.heap.size + 1 + 1 ∨ w3.heap.size ≤ i) Wd w' → w'.cell? ⟨w.heap.size, 0, none⟩ = some (.slice (some ⟨b, off, none⟩) k cv) := fun w' hb => hb.cell (V2.p.cell (i := 0) rfl) (by omega)
                refine pt_q (v := ?_) rfl (by rfl) ?_ ?_
                rotate_left
                · intro w' hBw'
                  first | (go_simp; done) | (go_simp; with_reducible rfl)
                try simp only [Act.put, List.getElem_toArray, List.getElem_cons_zero, List.getElem_cons_succ, List.setIfInBounds_toArray, List.set_cons_zero, List.set_cons_succ]
                refine pt_q (v := ?_) rfl (by rfl) ?_ ?_
                rotate_left
                · intro w' hBw'
                  first | (go_simp; done) | (go_simp; with_reducible rfl)
                try simp only [Act.put, List.getElem_toArray, List.getElem_cons_zero, List.getElem_cons_succ, List.setIfInBounds_toArray, List.set_cons_zero, List.set_cons_succ]
                refine pt_q (v := ?_) rfl (by rfl) ?_ ?_
                rotate_left
                · intro w' hBw'
                  first | (go_simp; done) | (go_simp; with_reducible rfl)
                try simp only [Act.put, List.getElem_toArray, List.getElem_cons_zero, List.getElem_cons_succ, List.setIfInBounds_toArray, List.set_cons_zero, List.set_cons_succ]
                refine pt_q (v := ?_) rfl (by rfl) ?_ ?_
                rotate_left
                · intro w' hBw'
                  first | (go_simp; done) | (go_simp; with_reducible rfl)
                try simp only [Act.put, List.getElem_toArray, List.getElem_cons_zero, List.getElem_cons_succ, List.setIfInBounds_toArray, List.set_cons_zero, List.set_cons_succ]
                refine pt_load rfl (by rfl) 27 (.tmp 3) rfl (w.heap.size + 1) 0 rfl (ctC c) _ V2.c.range (by omega) Try.underlying27 rfl (by kernel_rfl) ?_
                try simp only [Act.put, List.getElem_toArray, List.getElem_cons_zero, List.getElem_cons_succ, List.setIfInBounds_toArray, List.set_cons_zero, List.set_cons_succ]
                refine pt_q (v := ?_) rfl (by rfl) ?_ ?_
                rotate_left
                · intro w' hBw'
                  first | (go_simp; done) | (go_simp; with_reducible rfl)
                try simp only [Act.put, List.getElem_toArray, List.getElem_cons_zero, List.getElem_cons_succ, List.setIfInBounds_toArray, List.set_cons_zero, List.set_cons_succ]
                refine pt_q (v := ?_) rfl (by rfl) ?_ ?_
                rotate_left
                · intro w' hBw'
                  first | (go_simp; done) | (go_simp; with_reducible rfl)
                try simp only [Act.put, List.getElem_toArray, List.getElem_cons_zero, List.getElem_cons_succ, List.setIfInBounds_toArray, List.set_cons_zero, List.set_cons_succ]
                refine pt_q (v := ?_) rfl (by rfl) ?_ ?_
                rotate_left
                · intro w' hBw'
                  first | (go_simp; done) | (go_simp; with_reducible rfl)
                try simp only [Act.put, List.getElem_toArray, List.getElem_cons_zero, List.getElem_cons_succ, List.setIfInBounds_toArray, List.set_cons_zero, List.set_cons_succ]
                refine pt_q (v := ?_) rfl (by rfl) ?_ ?_
                rotate_left
                · intro w' hBw'
                  first | (go_simp; done) | (go_simp; with_reducible rfl)
                try simp only [Act.put, List.getElem_toArray, List.getElem_cons_zero, List.getElem_cons_succ, List.setIfInBounds_toArray, List.set_cons_zero, List.set_cons_succ]
                refine pt_f ?_ ?_
                · refine pt_step rfl (by rfl) (fun K hK => ?_)
                  go_simp
                  refine hK.out _ _ (But.alloc _ _) ?_
                  clear hK K
                  try simp only [Act.put, List.getElem_toArray, List.getElem_cons_zero, List.getElem_cons_succ, List.setIfInBounds_toArray, List.set_cons_zero, List.set_cons_succ]
                  have hE := below_alloc Wd (.cells #[] 27)
                  have h0 : (Wd.alloc (.cells #[] 27)).ownsRow w3.heap.size 27 5 (.slice (some ⟨Wd.heap.size, 0, none⟩) 0 0) 0 [] := World.ownsRow_lit Wd #[] 0 hBd.size (by decide) rfl
                  have hg0 := fun q hq => (own_of_some h0 (k := q) hq).1
                  have z0 := hE.size
                  refine pt_f ?_ ?_
                  · refine pt_app2 rfl (by rfl) _ _ 38 rfl slC w3.heap.size rfl h0 rfl ((sl1.up V2.below).up hE) (one_ct _) (by simp only [maxLen]; omega) (by omega) (by first | omega | (simp only [World.size_alloc] at *; omega)) (fun i hi => .inr hi) (fun v5 w5 h5 hb5 => ?_)
                    try simp only [Act.put, List.getElem_toArray, List.getElem_cons_zero, List.getElem_cons_succ, List.setIfInBounds_toArray, List.set_cons_zero, List.set_cons_succ]
                    have r5 := (V2.r.below hE).but hb5 (fun e => by have := hg0 _ e; omega)
                    have l5 := ((sl2.up V2.below).up hE).but hb5 (hbl.imp id fun h q hq e => by have := h q hq; have := hg0 _ e; omega)
                    have z5 := hb5.size
                    have q5 := (below_up V2.below hE).trans (hb5.below (fun i e => by have := hg0 _ e; omega) (by omega))
                    refine pt_c ?_
                    refine pt_step rfl (by rfl) (fun K hK => ?_)
                    go_simp
                    refine hK.out _ _ (But.alloc _ _) ?_
                    clear hK K
                    try simp only [Act.put, List.getElem_toArray, List.getElem_cons_zero, List.getElem_cons_succ, List.setIfInBounds_toArray, List.set_cons_zero, List.set_cons_succ]
                    have hX := below_alloc w5 (.cells (ctC c).toArray 27)
                    have s7 := slOne w5 _ rfl 27 c
                    replace h5 := own_up h5 hX
                    have r7 := r5.below hX
                    have l7 := l5.up hX
                    have z7 := hX.size
                    have q7 := below_up q5 hX
                    refine pt_c ?_
                    refine pt_app2 rfl (by rfl) _ _ 38 rfl slC w3.heap.size rfl h5 rfl (s7) (one_ct _) (by simp only [maxLen]; omega) (by omega) (by first | omega | (simp only [World.size_alloc] at *; omega)) (fun i hi => .inr hi) (fun v8 w8 h8 hb8 => ?_)
                    try simp only [Act.put, List.getElem_toArray, List.getElem_cons_zero, List.getElem_cons_succ, List.setIfInBounds_toArray, List.set_cons_zero, List.set_cons_succ]
                    have hg8 := fun q hq => (own_of_some h5 (k := q) hq).1
                    have r8 := r7.but hb8 (fun e => by have := hg8 _ e; omega)
                    have l8 := l7.but hb8 (hbl.imp id fun h q hq e => by have := h q hq; have := hg8 _ e; omega)
                    have z8 := hb8.size
                    have q8 := q7.trans (hb8.below (fun i e => by have := hg8 _ e; omega) q7.size)
                    refine pt_c ?_
                    refine pt_app2 rfl (by rfl) _ _ 38 rfl slC w3.heap.size rfl h8 rfl (l8) (one_ct _) (by simp only [maxLen]; omega) (by omega) (by first | omega | (simp only [World.size_alloc] at *; omega)) (fun i hi => .inr hi) (fun v9 w9 h9 hb9 => ?_)
                    try simp only [Act.put, List.getElem_toArray, List.getElem_cons_zero, List.getElem_cons_succ, List.setIfInBounds_toArray, List.set_cons_zero, List.set_cons_succ]
                    have hg9 := fun q hq => (own_of_some h8 (k := q) hq).1
                    have r9 := r8.but hb9 (fun e => by have := hg9 _ e; omega)
                    have z9 := hb9.size
                    have q9 := q8.trans (hb9.below (fun i e => by have := hg9 _ e; omega) q8.size)
                    obtain ⟨a9, c9, rfl⟩ := own_slice h9
                    obtain ⟨N9, hN9⟩ : ∃ N, N = 0 + j + 1 + (k - j) := ⟨_, rfl⟩
                    rw [← hN9] at h9
                    try rw [← hN9]
                    have HN9 := Lib.hid hN9
                    clear hN9
                    refine pt_q (v := ?_) rfl (by rfl) ?_ ?_
                    rotate_left
                    · intro w' hBw'
                      first | (go_simp; done) | (go_simp; with_reducible rfl)
                    try simp only [Act.put, List.getElem_toArray, List.getElem_cons_zero, List.getElem_cons_succ, List.setIfInBounds_toArray, List.set_cons_zero, List.set_cons_succ]
                    refine pt_c ?_
                    refine pt_put_row rfl (by rfl) 47 _ _ rfl (w.heap.size + 1 + 1) [.slice a9 N9 c9] rfl rfl r9 rfl (by kernel_rfl) rfl (.inl rfl) (fun wA hRA hbA => ?_)
                    try simp only [Act.put, List.getElem_toArray, List.getElem_cons_zero, List.getElem_cons_succ, List.setIfInBounds_toArray, List.set_cons_zero, List.set_cons_succ]
                    refine pt_q (v := ?_) rfl (by rfl) ?_ ?_
                    rotate_left
                    · intro w' hBw'
                      first | (go_simp; done) | (go_simp; with_reducible rfl)
                    try simp only [Act.put, List.getElem_toArray, List.getElem_cons_zero, List.getElem_cons_succ, List.setIfInBounds_toArray, List.set_cons_zero, List.set_cons_succ]
                    refine pt_done ?_
                    have rA := hRA.cell (i := 0) rfl
                    have qA := q9.trans (hbA.below (fun i e => by omega) q9.size)
                    have hgA := fun q hq => (own_of_some h9 (k := q) hq)
                    have sA := (Sl.of_own h9).but hbA (.inr fun q hq e => by have := hgA q hq; omega)
                    have zA := hbA.size
                    go_wp2
                    refine bodyPost_ret (v := .tuple #[.agg #[.slice a9 N9 c9], .int .i64 0]) (by simp [results, Try.results46, go_sem, rA]) rfl ⟨.slice a9 N9 c9, by rw [HA.out], ?_, qA, .inr fun q hq => by have := hgA q hq; exact ⟨by omega, by omega⟩⟩
                    rw [HA.out]
                    have hins : insF L c = L.take j ++ c :: L.drop j := by unfold insF; rw [hpos]
                    have hlen : (insF L c).length = N9 := by have h1 := Hln.out; have h2 := HN9.out; rw [hins]; simp only [List.length_append, List.length_cons, List.length_take, List.length_drop]; omega
                    show Sl wA 5 _ (insF L c).length ((insF L c).flatMap ctC)
                    rw [hlen, hins]
                    simpa using sA
                  · refine pt_step rfl (by rfl) (fun K hK => ?_)
                    go_simp
                    refine hK.out _ _ (But.alloc _ _) ?_
                    clear hK K
                    try simp only [Act.put, List.getElem_toArray, List.getElem_cons_zero, List.getElem_cons_succ, List.setIfInBounds_toArray, List.set_cons_zero, List.set_cons_succ]
                    have hX := below_alloc (Wd.alloc (.cells #[] 27)) (.cells (ctC c).toArray 27)
                    have s70 := slOne (Wd.alloc (.cells #[] 27)) (Wd.heap.size + 1) (by rw [World.size_alloc]) 27 c
                    have r70 := (V2.r.below hE).below hX
                    have l70 := ((sl2.up V2.below).up hE).up hX
                    have h00 := own_up h0 hX
                    have z70 := hX.size
                    refine pt_c ?_
                    refine pt_app2 rfl (by rfl) _ _ 38 rfl slC w3.heap.size rfl h00 rfl (((sl1.up V2.below).up hE).up hX) (one_ct _) (by simp only [maxLen]; omega) (by omega) (by first | omega | (simp only [World.size_alloc] at *; omega)) (fun i hi => .inr hi) (fun v5 w5 h5 hb5 => ?_)
                    try simp only [Act.put, List.getElem_toArray, List.getElem_cons_zero, List.getElem_cons_succ, List.setIfInBounds_toArray, List.set_cons_zero, List.set_cons_succ]
                    have s7 := s70.but hb5 (.inr fun q hq e => by have h1 := Option.some.inj hq; have h2 := Option.some.inj e; simp only [World.size_alloc] at *; omega)
                    have r7 := r70.but hb5 (fun e => by have h2 := Option.some.inj e; simp only [World.size_alloc] at *; omega)
                    have l7 := l70.but hb5 (hbl.imp id fun h q hq e => by have := h q hq; have h2 := Option.some.inj e; simp only [World.size_alloc] at *; omega)
                    have z7 := hb5.size
                    have q7 := (below_up (below_up V2.below hE) hX).trans (hb5.below (fun i e => by have h2 := Option.some.inj e; simp only [World.size_alloc] at *; omega) (by simp only [World.size_alloc] at *; omega))
                    refine pt_c ?_
                    refine pt_app2 rfl (by rfl) _ _ 38 rfl slC w3.heap.size rfl h5 rfl (s7) (one_ct _) (by simp only [maxLen]; omega) (by omega) (by first | omega | (simp only [World.size_alloc] at *; omega)) (fun i hi => .inr hi) (fun v8 w8 h8 hb8 => ?_)
                    try simp only [Act.put, List.getElem_toArray, List.getElem_cons_zero, List.getElem_cons_succ, List.setIfInBounds_toArray, List.set_cons_zero, List.set_cons_succ]
                    have hg8 := fun q hq => (own_of_some h5 (k := q) hq).1
                    have r8 := r7.but hb8 (fun e => by have := hg8 _ e; omega)
                    have l8 := l7.but hb8 (hbl.imp id fun h q hq e => by have := h q hq; have := hg8 _ e; omega)
                    have z8 := hb8.size
                    have q8 := q7.trans (hb8.below (fun i e => by have := hg8 _ e; omega) q7.size)
                    refine pt_c ?_
                    refine pt_app2 rfl (by rfl) _ _ 38 rfl slC w3.heap.size rfl h8 rfl (l8) (one_ct _) (by simp only [maxLen]; omega) (by omega) (by first | omega | (simp only [World.size_alloc] at *; omega)) (fun i hi => .inr hi) (fun v9 w9 h9 hb9 => ?_)
                    try simp only [Act.put, List.getElem_toArray, List.getElem_cons_zero, List.getElem_cons_succ, List.setIfInBounds_toArray, List.set_cons_zero, List.set_cons_succ]
                    have hg9 := fun q hq => (own_of_some h8 (k := q) hq).1
                    have r9 := r8.but hb9 (fun e => by have := hg9 _ e; omega)
                    have z9 := hb9.size
                    have q9 := q8.trans (hb9.below (fun i e => by have := hg9 _ e; omega) q8.size)
                    obtain ⟨a9, c9, rfl⟩ := own_slice h9
                    obtain ⟨N9, hN9⟩ : ∃ N, N = 0 + j + 1 + (k - j) := ⟨_, rfl⟩
                    rw [← hN9] at h9
                    try rw [← hN9]
                    have HN9 := Lib.hid hN9
                    clear hN9
                    refine pt_q (v := ?_) rfl (by rfl) ?_ ?_
                    rotate_left
                    · intro w' hBw'
                      first | (go_simp; done) | (go_simp; with_reducible rfl)
                    try simp only [Act.put, List.getElem_toArray, List.getElem_cons_zero, List.getElem_cons_succ, List.setIfInBounds_toArray, List.set_cons_zero, List.set_cons_succ]
                    refine pt_c ?_
                    refine pt_put_row rfl (by rfl) 47 _ _ rfl (w.heap.size + 1 + 1) [.slice a9 N9 c9] rfl rfl r9 rfl (by kernel_rfl) rfl (.inl rfl) (fun wA hRA hbA => ?_)
                    try simp only [Act.put, List.getElem_toArray, List.getElem_cons_zero, List.getElem_cons_succ, List.setIfInBounds_toArray, List.set_cons_zero, List.set_cons_succ]
                    refine pt_q (v := ?_) rfl (by rfl) ?_ ?_
                    rotate_left
                    · intro w' hBw'
                      first | (go_simp; done) | (go_simp; with_reducible rfl)
                    try simp only [Act.put, List.getElem_toArray, List.getElem_cons_zero, List.getElem_cons_succ, List.setIfInBounds_toArray, List.set_cons_zero, List.set_cons_succ]
                    refine pt_done ?_
                    have rA := hRA.cell (i := 0) rfl
                    have qA := q9.trans (hbA.below (fun i e => by omega) q9.size)
                    have hgA := fun q hq => (own_of_some h9 (k := q) hq)
                    have sA := (Sl.of_own h9).but hbA (.inr fun q hq e => by have := hgA q hq; omega)
                    have zA := hbA.size
                    go_wp2
                    refine bodyPost_ret (v := .tuple #[.agg #[.slice a9 N9 c9], .int .i64 0]) (by simp [results, Try.results46, go_sem, rA]) rfl ⟨.slice a9 N9 c9, by rw [HA.out], ?_, qA, .inr fun q hq => by have := hgA q hq; exact ⟨by omega, by omega⟩⟩
                    rw [HA.out]
                    have hins : insF L c = L.take j ++ c :: L.drop j := by unfold insF; rw [hpos]
                    have hlen : (insF L c).length = N9 := by have h1 := Hln.out; have h2 := HN9.out; rw [hins]; simp only [List.length_append, List.length_cons, List.length_take, List.length_drop]; omega
                    show Sl wA 5 _ (insF L c).length ((insF L c).flatMap ctC)
                    rw [hlen, hins]
                    simpa using sA
                · refine pt_step rfl (by rfl) (fun K hK => ?_)
                  go_simp
                  refine hK.out _ _ (But.alloc _ _) ?_
                  clear hK K
                  try simp only [Act.put, List.getElem_toArray, List.getElem_cons_zero, List.getElem_cons_succ, List.setIfInBounds_toArray, List.set_cons_zero, List.set_cons_succ]
                  have hX := below_alloc Wd (.cells (ctC c).toArray 27)
                  have s70 := slOne Wd _ rfl 27 c
                  have zX := hX.size
                  refine pt_c ?_
                  refine pt_step rfl (by rfl) (fun K hK => ?_)
                  go_simp
                  refine hK.out _ _ (But.alloc _ _) ?_
                  clear hK K
                  try simp only [Act.put, List.getElem_toArray, List.getElem_cons_zero, List.getElem_cons_succ, List.setIfInBounds_toArray, List.set_cons_zero, List.set_cons_succ]
                  have hE := below_alloc (Wd.alloc (.cells (ctC c).toArray 27)) (.cells #[] 27)
                  have h0 : ((Wd.alloc (.cells (ctC c).toArray 27)).alloc (.cells #[] 27)).ownsRow w3.heap.size 27 5 (.slice (some ⟨Wd.heap.size + 1, 0, none⟩) 0 0) 0 [] := own0 (Wd.alloc (.cells (ctC c).toArray 27)) (by omega) (by rw [World.size_alloc])
                  have zE := hE.size
                  refine pt_c ?_
                  refine pt_app2 rfl (by rfl) _ _ 38 rfl slC w3.heap.size rfl h0 rfl (((sl1.up V2.below).up hX).up hE) (one_ct _) (by simp only [maxLen]; omega) (by omega) (by first | omega | (simp only [World.size_alloc] at *; omega)) (fun i hi => .inr hi) (fun v5 w5 h5 hb5 => ?_)
                  try simp only [Act.put, List.getElem_toArray, List.getElem_cons_zero, List.getElem_cons_succ, List.setIfInBounds_toArray, List.set_cons_zero, List.set_cons_succ]
                  have s7 := (s70.up hE).but hb5 (.inr fun q hq e => by have h1 := Option.some.inj hq; have h2 := Option.some.inj e; simp only [World.size_alloc] at *; omega)
                  have r7 := ((V2.r.below hX).below hE).but hb5 (fun e => by have h2 := Option.some.inj e; simp only [World.size_alloc] at *; omega)
                  have l7 := (((sl2.up V2.below).up hX).up hE).but hb5 (hbl.imp id fun h q hq e => by have := h q hq; have h2 := Option.some.inj e; simp only [World.size_alloc] at *; omega)
                  have z7 := hb5.size
                  have q7 := (below_up (below_up V2.below hX) hE).trans (hb5.below (fun i e => by have h2 := Option.some.inj e; simp only [World.size_alloc] at *; omega) (by simp only [World.size_alloc] at *; omega))
                  refine pt_c ?_
                  refine pt_app2 rfl (by rfl) _ _ 38 rfl slC w3.heap.size rfl h5 rfl (s7) (one_ct _) (by simp only [maxLen]; omega) (by omega) (by first | omega | (simp only [World.size_alloc] at *; omega)) (fun i hi => .inr hi) (fun v8 w8 h8 hb8 => ?_)
                  try simp only [Act.put, List.getElem_toArray, List.getElem_cons_zero, List.getElem_cons_succ, List.setIfInBounds_toArray, List.set_cons_zero, List.set_cons_succ]
                  have hg8 := fun q hq => (own_of_some h5 (k := q) hq).1
                  have r8 := r7.but hb8 (fun e => by have := hg8 _ e; omega)
                  have l8 := l7.but hb8 (hbl.imp id fun h q hq e => by have := h q hq; have := hg8 _ e; omega)
                  have z8 := hb8.size
                  have q8 := q7.trans (hb8.below (fun i e => by have := hg8 _ e; omega) q7.size)
                  refine pt_c ?_
                  refine pt_app2 rfl (by rfl) _ _ 38 rfl slC w3.heap.size rfl h8 rfl (l8) (one_ct _) (by simp only [maxLen]; omega) (by omega) (by first | omega | (simp only [World.size_alloc] at *; omega)) (fun i hi => .inr hi) (fun v9 w9 h9 hb9 => ?_)
                  try simp only [Act.put, List.getElem_toArray, List.getElem_cons_zero, List.getElem_cons_succ, List.setIfInBounds_toArray, List.set_cons_zero, List.set_cons_succ]
                  have hg9 := fun q hq => (own_of_some h8 (k := q) hq).1
                  have r9 := r8.but hb9 (fun e => by have := hg9 _ e; omega)
                  have z9 := hb9.size
                  have q9 := q8.trans (hb9.below (fun i e => by have := hg9 _ e; omega) q8.size)
                  obtain ⟨a9, c9, rfl⟩ := own_slice h9
                  obtain ⟨N9, hN9⟩ : ∃ N, N = 0 + j + 1 + (k - j) := ⟨_, rfl⟩
                  rw [← hN9] at h9
                  try rw [← hN9]
                  have HN9 := Lib.hid hN9
                  clear hN9
                  refine pt_q (v := ?_) rfl (by rfl) ?_ ?_
                  rotate_left
                  · intro w' hBw'
                    first | (go_simp; done) | (go_simp; with_reducible rfl)
                  try simp only [Act.put, List.getElem_toArray, List.getElem_cons_zero, List.getElem_cons_succ, List.setIfInBounds_toArray, List.set_cons_zero, List.set_cons_succ]
                  refine pt_c ?_
                  refine pt_put_row rfl (by rfl) 47 _ _ rfl (w.heap.size + 1 + 1) [.slice a9 N9 c9] rfl rfl r9 rfl (by kernel_rfl) rfl (.inl rfl) (fun wA hRA hbA => ?_)
                  try simp only [Act.put, List.getElem_toArray, List.getElem_cons_zero, List.getElem_cons_succ, List.setIfInBounds_toArray, List.set_cons_zero, List.set_cons_succ]
                  refine pt_q (v := ?_) rfl (by rfl) ?_ ?_
                  rotate_left
                  · intro w' hBw'
                    first | (go_simp; done) | (go_simp; with_reducible rfl)
                  try simp only [Act.put, List.getElem_toArray, List.getElem_cons_zero, List.getElem_cons_succ, List.setIfInBounds_toArray, List.set_cons_zero, List.set_cons_succ]
                  refine pt_done ?_
                  have rA := hRA.cell (i := 0) rfl
                  have qA := q9.trans (hbA.below (fun i e => by omega) q9.size)
                  have hgA := fun q hq => (own_of_some h9 (k := q) hq)
                  have sA := (Sl.of_own h9).but hbA (.inr fun q hq e => by have := hgA q hq; omega)
                  have zA := hbA.size
                  go_wp2
                  refine bodyPost_ret (v := .tuple #[.agg #[.slice a9 N9 c9], .int .i64 0]) (by simp [results, Try.results46, go_sem, rA]) rfl ⟨.slice a9 N9 c9, by rw [HA.out], ?_, qA, .inr fun q hq => by have := hgA q hq; exact ⟨by omega, by omega⟩⟩
                  rw [HA.out]
                  have hins : insF L c = L.take j ++ c :: L.drop j := by unfold insF; rw [hpos]
                  have hlen : (insF L c).length = N9 := by have h1 := Hln.out; have h2 := HN9.out; rw [hins]; simp only [List.length_append, List.length_cons, List.length_take, List.length_drop]; omega
                  show Sl wA 5 _ (insF L c).length ((insF L c).flatMap ctC)
                  rw [hlen, hins]
                  simpa using sA
            · have hgeI : ¬ (j : Int) < (k : Int) := by omega
              have hpos : posF L c = j := takeWhile_len (by rw [Hln.out]; omega) (fun q hq hqj => Hyes.out q hq hqj) (fun h => by rw [Hln.out] at h; omega)
              obtain ⟨a1, hs1, sl1⟩ := cut_h slC hv j (by omega)
              obtain ⟨a2, hs2, sl2⟩ := cut_l slC hv j (by omega)
              replace hs1 := fun w' => hs1 .i64 w'
              replace hs2 := fun w' => hs2 .i64 w'
              rw [ct_take] at sl1
              rw [ct_drop] at sl2
              have hbl := sl2.block_lt (by decide)
              have hwl := V.below.size
              go_wp2
              refine wp_region_pt (fun i => wr.heap.size ≤ i) (.q 0 (.q 1 (.q 2 (.q 3 (.q 4 (.q 5 (.q 6 (.q 7 (.q 8 (.q 9 (.q 10 (.q 11 (.q 12 (.q 13 .done)))))))))))))) (by kernel_rfl) (by kernel_rfl) (by kernel_rfl) (by decide) (fun _ _ d _ _ h => by cases d <;> exact h) (fun Wd hBd => ?_)
              try simp only [Act.put, List.getElem_toArray, List.getElem_cons_zero, List.getElem_cons_succ, List.setIfInBounds_toArray, List.set_cons_zero, List.set_cons_succ]
              have V2 := V.up hBd
              have cp : ∀ w', But (fun i => wr.heap.size ≤ i) Wd w' → w'.cell? ⟨w.heap.size, 0, none⟩ = some (.slice av k cv) := fun w' hb => hb.cell (V2.p.cell (i := 0) rfl) (by omega)
              refine pt_q (v := ?_) rfl (by rfl) ?_ ?_
              rotate_left
              · intro w' hBw'
                first | (go_simp; done) | (go_simp; with_reducible rfl)
              try simp only [Act.put, List.getElem_toArray, List.getElem_cons_zero, List.getElem_cons_succ, List.setIfInBounds_toArray, List.set_cons_zero, List.set_cons_succ]
              refine pt_q (v := ?_) rfl (by rfl) ?_ ?_
              rotate_left
              · intro w' hBw'
                first | (go_simp; done) | (go_simp; with_reducible rfl)
              try simp only [Act.put, List.getElem_toArray, List.getElem_cons_zero, List.getElem_cons_succ, List.setIfInBounds_toArray, List.set_cons_zero, List.set_cons_succ]
              refine pt_q (v := ?_) rfl (by rfl) ?_ ?_
              rotate_left
              · intro w' hBw'
                first | (go_simp; done) | (go_simp; with_reducible rfl)
              try simp only [Act.put, List.getElem_toArray, List.getElem_cons_zero, List.getElem_cons_succ, List.setIfInBounds_toArray, List.set_cons_zero, List.set_cons_succ]
              refine pt_q (v := ?_) rfl (by rfl) ?_ ?_
              rotate_left
              · intro w' hBw'
                first | (go_simp; done) | (go_simp; with_reducible rfl)
              try simp only [Act.put, List.getElem_toArray, List.getElem_cons_zero, List.getElem_cons_succ, List.setIfInBounds_toArray, List.set_cons_zero, List.set_cons_succ]
              refine pt_q (v := ?_) rfl (by rfl) ?_ ?_
              rotate_left
              · intro w' hBw'
                first | (go_simp; done) | (go_simp; with_reducible rfl)
              try simp only [Act.put, List.getElem_toArray, List.getElem_cons_zero, List.getElem_cons_succ, List.setIfInBounds_toArray, List.set_cons_zero, List.set_cons_succ]
              refine pt_q (v := ?_) rfl (by rfl) ?_ ?_
              rotate_left
              · intro w' hBw'
                first | (go_simp; done) | (go_simp; with_reducible rfl)
              try simp only [Act.put, List.getElem_toArray, List.getElem_cons_zero, List.getElem_cons_succ, List.setIfInBounds_toArray, List.set_cons_zero, List.set_cons_succ]
              refine pt_no rfl (by rfl) ?_
              try simp only [Act.put, List.getElem_toArray, List.getElem_cons_zero, List.getElem_cons_succ, List.setIfInBounds_toArray, List.set_cons_zero, List.set_cons_succ]
              refine pt_no rfl (by rfl) ?_
              try simp only [Act.put, List.getElem_toArray, List.getElem_cons_zero, List.getElem_cons_succ, List.setIfInBounds_toArray, List.set_cons_zero, List.set_cons_succ]
              refine pt_no rfl (by rfl) ?_
              try simp only [Act.put, List.getElem_toArray, List.getElem_cons_zero, List.getElem_cons_succ, List.setIfInBounds_toArray, List.set_cons_zero, List.set_cons_succ]
              refine pt_no rfl (by rfl) ?_
              try simp only [Act.put, List.getElem_toArray, List.getElem_cons_zero, List.getElem_cons_succ, List.setIfInBounds_toArray, List.set_cons_zero, List.set_cons_succ]
              refine pt_no rfl (by rfl) ?_
              try simp only [Act.put, List.getElem_toArray, List.getElem_cons_zero, List.getElem_cons_succ, List.setIfInBounds_toArray, List.set_cons_zero, List.set_cons_succ]
              refine pt_no rfl (by rfl) ?_
              try simp only [Act.put, List.getElem_toArray, List.getElem_cons_zero, List.getElem_cons_succ, List.setIfInBounds_toArray, List.set_cons_zero, List.set_cons_succ]
              refine pt_no rfl (by rfl) ?_
              try simp only [Act.put, List.getElem_toArray, List.getElem_cons_zero, List.getElem_cons_succ, List.setIfInBounds_toArray, List.set_cons_zero, List.set_cons_succ]
              refine pt_q (v := ?_) rfl (by rfl) ?_ ?_
              rotate_left
              · intro w' hBw'
                first | (go_simp; done) | (go_simp; with_reducible rfl)
              try simp only [Act.put, List.getElem_toArray, List.getElem_cons_zero, List.getElem_cons_succ, List.setIfInBounds_toArray, List.set_cons_zero, List.set_cons_succ]
              refine pt_done ?_
              have hwl2 := V2.below.size
              clear cp
              obtain ⟨Wk, hWk⟩ : ∃ W, W = Wd := ⟨_, rfl⟩
              subst hWk
              go_wp2
              refine wp_region_pt (fun i => i = w.heap.size + 1 + 1 ∨ Wk.heap.size ≤ i) (.q 1 (.q 2 (.q 3 (.q 4 (.q 6 (.q 9 (.q 10 (.q 11 (.q 12 (.f 0 (.f 5 (.c 7 (.c 8 (.c 13 (.q 14 (.c 15 (.q 16 .done)))))) 7 (.c 5 (.c 8 (.c 13 (.q 14 (.c 15 (.q 16 .done))))))) 7 (.c 0 (.c 5 (.c 8 (.c 13 (.q 14 (.c 15 (.q 16 .done))))))))))))))))) (by kernel_rfl) (by kernel_rfl) (by kernel_rfl) (by decide) (fun _ _ d _ _ h => by cases d <;> exact h) (fun Wd hBd => ?_)
              try simp only [Act.put, List.getElem_toArray, List.getElem_cons_zero, List.getElem_cons_succ, List.setIfInBounds_toArray, List.set_cons_zero, List.set_cons_succ]
              have hrlt := V2.r.lt
              have V2 := V2.up hBd
              have hsz := hBd.size
              have cp : ∀ w', But (fun i => i = w.heap.size + 1 + 1 ∨ Wk.heap.size ≤ i) Wd w' → w'.cell? ⟨w.heap.size, 0, none⟩ = some (.slice av k cv) := fun w' hb => hb.cell (V2.p.cell (i := 0) rfl) (by omega)
              refine pt_q (v := ?_) rfl (by rfl) ?_ ?_
              rotate_left
              · intro w' hBw'
                first | (go_simp; done) | (go_simp; with_reducible rfl)
              try simp only [Act.put, List.getElem_toArray, List.getElem_cons_zero, List.getElem_cons_succ, List.setIfInBounds_toArray, List.set_cons_zero, List.set_cons_succ]
              refine pt_q (v := ?_) rfl (by rfl) ?_ ?_
              rotate_left
              · intro w' hBw'
                first | (go_simp; done) | (go_simp; with_reducible rfl)
              try simp only [Act.put, List.getElem_toArray, List.getElem_cons_zero, List.getElem_cons_succ, List.setIfInBounds_toArray, List.set_cons_zero, List.set_cons_succ]
              refine pt_q (v := ?_) rfl (by rfl) ?_ ?_
              rotate_left
              · intro w' hBw'
                first | (go_simp; done) | (go_simp; with_reducible rfl)
              try simp only [Act.put, List.getElem_toArray, List.getElem_cons_zero, List.getElem_cons_succ, List.setIfInBounds_toArray, List.set_cons_zero, List.set_cons_succ]
              refine pt_q (v := ?_) rfl (by rfl) ?_ ?_
              rotate_left
              · intro w' hBw'
                first | (go_simp; done) | (go_simp; with_reducible rfl)
              try simp only [Act.put, List.getElem_toArray, List.getElem_cons_zero, List.getElem_cons_succ, List.setIfInBounds_toArray, List.set_cons_zero, List.set_cons_succ]
              refine pt_load rfl (by rfl) 27 (.tmp 3) rfl (w.heap.size + 1) 0 rfl (ctC c) _ V2.c.range (by omega) Try.underlying27 rfl (by kernel_rfl) ?_
              try simp only [Act.put, List.getElem_toArray, List.getElem_cons_zero, List.getElem_cons_succ, List.setIfInBounds_toArray, List.set_cons_zero, List.set_cons_succ]
              refine pt_q (v := ?_) rfl (by rfl) ?_ ?_
              rotate_left
              · intro w' hBw'
                first | (go_simp; done) | (go_simp; with_reducible rfl)
              try simp only [Act.put, List.getElem_toArray, List.getElem_cons_zero, List.getElem_cons_succ, List.setIfInBounds_toArray, List.set_cons_zero, List.set_cons_succ]
              refine pt_q (v := ?_) rfl (by rfl) ?_ ?_
              rotate_left
              · intro w' hBw'
                first | (go_simp; done) | (go_simp; with_reducible rfl)
              try simp only [Act.put, List.getElem_toArray, List.getElem_cons_zero, List.getElem_cons_succ, List.setIfInBounds_toArray, List.set_cons_zero, List.set_cons_succ]
              refine pt_q (v := ?_) rfl (by rfl) ?_ ?_
              rotate_left
              · intro w' hBw'
                first | (go_simp; done) | (go_simp; with_reducible rfl)
              try simp only [Act.put, List.getElem_toArray, List.getElem_cons_zero, List.getElem_cons_succ, List.setIfInBounds_toArray, List.set_cons_zero, List.set_cons_succ]
              refine pt_q (v := ?_) rfl (by rfl) ?_ ?_
              rotate_left
              · intro w' hBw'
                first | (go_simp; done) | (go_simp; with_reducible rfl)
              try simp only [Act.put, List.getElem_toArray, List.getElem_cons_zero, List.getElem_cons_succ, List.setIfInBounds_toArray, List.set_cons_zero, List.set_cons_succ]
              refine pt_f ?_ ?_
              · refine pt_step rfl (by rfl) (fun K hK => ?_)
                go_simp
                refine hK.out _ _ (But.alloc _ _) ?_
                clear hK K
                try simp only [Act.put, List.getElem_toArray, List.getElem_cons_zero, List.getElem_cons_succ, List.setIfInBounds_toArray, List.set_cons_zero, List.set_cons_succ]
                have hE := below_alloc Wd (.cells #[] 27)
                have h0 : (Wd.alloc (.cells #[] 27)).ownsRow Wk.heap.size 27 5 (.slice (some ⟨Wd.heap.size, 0, none⟩) 0 0) 0 [] := World.ownsRow_lit Wd #[] 0 hBd.size (by decide) rfl
                have hg0 := fun q hq => (own_of_some h0 (k := q) hq).1
                have z0 := hE.size
                refine pt_f ?_ ?_
                · refine pt_app2 rfl (by rfl) _ _ 38 rfl slC Wk.heap.size rfl h0 rfl ((sl1.up V2.below).up hE) (one_ct _) (by simp only [maxLen]; omega) (by omega) (by first | omega | (simp only [World.size_alloc] at *; omega)) (fun i hi => .inr hi) (fun v5 w5 h5 hb5 => ?_)
                  try simp only [Act.put, List.getElem_toArray, List.getElem_cons_zero, List.getElem_cons_succ, List.setIfInBounds_toArray, List.set_cons_zero, List.set_cons_succ]
                  have r5 := (V2.r.below hE).but hb5 (fun e => by have := hg0 _ e; omega)
                  have l5 := ((sl2.up V2.below).up hE).but hb5 (hbl.imp id fun h q hq e => by have := h q hq; have := hg0 _ e; omega)
                  have z5 := hb5.size
                  have q5 := (below_up V2.below hE).trans (hb5.below (fun i e => by have := hg0 _ e; omega) (by omega))
                  refine pt_c ?_
                  refine pt_step rfl (by rfl) (fun K hK => ?_)
                  go_simp
                  refine hK.out _ _ (But.alloc _ _) ?_
                  clear hK K
                  try simp only [Act.put, List.getElem_toArray, List.getElem_cons_zero, List.getElem_cons_succ, List.setIfInBounds_toArray, List.set_cons_zero, List.set_cons_succ]
                  have hX := below_alloc w5 (.cells (ctC c).toArray 27)
                  have s7 := slOne w5 _ rfl 27 c
                  replace h5 := own_up h5 hX
                  have r7 := r5.below hX
                  have l7 := l5.up hX
                  have z7 := hX.size
                  have q7 := below_up q5 hX
                  refine pt_c ?_
                  refine pt_app2 rfl (by rfl) _ _ 38 rfl slC Wk.heap.size rfl h5 rfl (s7) (one_ct _) (by simp only [maxLen]; omega) (by omega) (by first | omega | (simp only [World.size_alloc] at *; omega)) (fun i hi => .inr hi) (fun v8 w8 h8 hb8 => ?_)
                  try simp only [Act.put, List.getElem_toArray, List.getElem_cons_zero, List.getElem_cons_succ, List.setIfInBounds_toArray, List.set_cons_zero, List.set_cons_succ]
                  have hg8 := fun q hq => (own_of_some h5 (k := q) hq).1
                  have r8 := r7.but hb8 (fun e => by have := hg8 _ e; omega)
                  have l8 := l7.but hb8 (hbl.imp id fun h q hq e => by have := h q hq; have := hg8 _ e; omega)
                  have z8 := hb8.size
                  have q8 := q7.trans (hb8.below (fun i e => by have := hg8 _ e; omega) q7.size)
                  refine pt_c ?_
                  refine pt_app2 rfl (by rfl) _ _ 38 rfl slC Wk.heap.size rfl h8 rfl (l8) (one_ct _) (by simp only [maxLen]; omega) (by omega) (by first | omega | (simp only [World.size_alloc] at *; omega)) (fun i hi => .inr hi) (fun v9 w9 h9 hb9 => ?_)
                  try simp only [Act.put, List.getElem_toArray, List.getElem_cons_zero, List.getElem_cons_succ, List.setIfInBounds_toArray, List.set_cons_zero, List.set_cons_succ]
                  have hg9 := fun q hq => (own_of_some h8 (k := q) hq).1
                  have r9 := r8.but hb9 (fun e => by have := hg9 _ e; omega)
                  have z9 := hb9.size
                  have q9 := q8.trans (hb9.below (fun i e => by have := hg9 _ e; omega) q8.size)
                  obtain ⟨a9, c9, rfl⟩ := own_slice h9
                  obtain ⟨N9, hN9⟩ : ∃ N, N = 0 + j + 1 + (k - j) := ⟨_, rfl⟩
                  rw [← hN9] at h9
                  try rw [← hN9]
                  have HN9 := Lib.hid hN9
                  clear hN9
                  refine pt_q (v := ?_) rfl (by rfl) ?_ ?_
                  rotate_left
                  · intro w' hBw'
                    first | (go_simp; done) | (go_simp; with_reducible rfl)
                  try simp only [Act.put, List.getElem_toArray, List.getElem_cons_zero, List.getElem_cons_succ, List.setIfInBounds_toArray, List.set_cons_zero, List.set_cons_succ]
                  refine pt_c ?_
                  refine pt_put_row rfl (by rfl) 47 _ _ rfl (w.heap.size + 1 + 1) [.slice a9 N9 c9] rfl rfl r9 rfl (by kernel_rfl) rfl (.inl rfl) (fun wA hRA hbA => ?_)
                  try simp only [Act.put, List.getElem_toArray, List.getElem_cons_zero, List.getElem_cons_succ, List.setIfInBounds_toArray, List.set_cons_zero, List.set_cons_succ]
                  refine pt_q (v := ?_) rfl (by rfl) ?_ ?_
                  rotate_left
                  · intro w' hBw'
                    first | (go_simp; done) | (go_simp; with_reducible rfl)
                  try simp only [Act.put, List.getElem_toArray, List.getElem_cons_zero, List.getElem_cons_succ, List.setIfInBounds_toArray, List.set_cons_zero, List.set_cons_succ]
                  refine pt_done ?_
                  have rA := hRA.cell (i := 0) rfl
                  have qA := q9.trans (hbA.below (fun i e => by omega) q9.size)
                  have hgA := fun q hq => (own_of_some h9 (k := q) hq)
                  have sA := (Sl.of_own h9).but hbA (.inr fun q hq e => by have := hgA q hq; omega)
                  have zA := hbA.size
                  go_wp2
                  refine bodyPost_ret (v := .tuple #[.agg #[.slice a9 N9 c9], .int .i64 0]) (by simp [results, Try.results46, go_sem, rA]) rfl ⟨.slice a9 N9 c9, by rw [HA.out], ?_, qA, .inr fun q hq => by have := hgA q hq; exact ⟨by omega, by omega⟩⟩
                  rw [HA.out]
                  have hins : insF L c = L.take j ++ c :: L.drop j := by unfold insF; rw [hpos]
                  have hlen : (insF L c).length = N9 := by have h1 := Hln.out; have h2 := HN9.out; rw [hins]; simp only [List.length_append, List.length_cons, List.length_take, List.length_drop]; omega
                  show Sl wA 5 _ (insF L c).length ((insF L c).flatMap ctC)
                  rw [hlen, hins]
                  simpa using sA
                · refine pt_step rfl (by rfl) (fun K hK => ?_)
                  go_simp
                  refine hK.out _ _ (But.alloc _ _) ?_
                  clear hK K
                  try simp only [Act.put, List.getElem_toArray, List.getElem_cons_zero, List.getElem_cons_succ, List.setIfInBounds_toArray, List.set_cons_zero, List.set_cons_succ]
                  have hX := below_alloc (Wd.alloc (.cells #[] 27)) (.cells (ctC c).toArray 27)
                  have s70 := slOne (Wd.alloc (.cells #[] 27)) (Wd.heap.size + 1) (by rw [World.size_alloc]) 27 c
                  have r70 := (V2.r.below hE).below hX
                  have l70 := ((sl2.up V2.below).up hE).up hX
                  have h00 := own_up h0 hX
                  have z70 := hX.size
                  refine pt_c ?_
                  refine pt_app2 rfl (by rfl) _ _ 38 rfl slC Wk.heap.size rfl h00 rfl (((sl1.up V2.below).up hE).up hX) (one_ct _) (by simp only [maxLen]; omega) (by omega) (by first | omega | (simp only [World.size_alloc] at *; omega)) (fun i hi => .inr hi) (fun v5 w5 h5 hb5 => ?_)
                  try simp only [Act.put, List.getElem_toArray, List.getElem_cons_zero, List.getElem_cons_succ, List.setIfInBounds_toArray, List.set_cons_zero, List.set_cons_succ]
                  have s7 := s70.but hb5 (.inr fun q hq e => by have h1 := Option.some.inj hq; have h2 := Option.some.inj e; simp only [World.size_alloc] at *; omega)
                  have r7 := r70.but hb5 (fun e => by have h2 := Option.some.inj e; simp only [World.size_alloc] at *; omega)
                  have l7 := l70.but hb5 (hbl.imp id fun h q hq e => by have := h q hq; have h2 := Option.some.inj e; simp only [World.size_alloc] at *; omega)
                  have z7 := hb5.size
                  have q7 := (below_up (below_up V2.below hE) hX).trans (hb5.below (fun i e => by have h2 := Option.some.inj e; simp only [World.size_alloc] at *; omega) (by simp only [World.size_alloc] at *; omega))
                  refine pt_c ?_
                  refine pt_app2 rfl (by rfl) _ _ 38 rfl slC Wk.heap.size rfl h5 rfl (s7) (one_ct _) (by simp only [maxLen]; omega) (by omega) (by first | omega | (simp only [World.size_alloc] at *; omega)) (fun i hi => .inr hi) (fun v8 w8 h8 hb8 => ?_)
                  try simp only [Act.put, List.getElem_toArray, List.getElem_cons_zero, List.getElem_cons_succ, List.setIfInBounds_toArray, List.set_cons_zero, List.set_cons_succ]
                  have hg8 := fun q hq => (own_of_some h5 (k := q) hq).1
                  have r8 := r7.but hb8 (fun e => by have := hg8 _ e; omega)
                  have l8 := l7.but hb8 (hbl.imp id fun h q hq e => by have := h q hq; have := hg8 _ e; omega)
                  have z8 := hb8.size
                  have q8 := q7.trans (hb8.below (fun i e => by have := hg8 _ e; omega) q7.size)
                  refine pt_c ?_
                  refine pt_app2 rfl (by rfl) _ _ 38 rfl slC Wk.heap.size rfl h8 rfl (l8) (one_ct _) (by simp only [maxLen]; omega) (by omega) (by first | omega | (simp only [World.size_alloc] at *; omega)) (fun i hi => .inr hi) (fun v9 w9 h9 hb9 => ?_)
                  try simp only [Act.put, List.getElem_toArray, List.getElem_cons_zero, List.getElem_cons_succ, List.setIfInBounds_toArray, List.set_cons_zero, List.set_cons_succ]
                  have hg9 := fun q hq => (own_of_some h8 (k := q) hq).1
                  have r9 := r8.but hb9 (fun e => by have := hg9 _ e; omega)
                  have z9 := hb9.size
                  have q9 := q8.trans (hb9.below (fun i e => by have := hg9 _ e; omega) q8.size)
                  obtain ⟨a9, c9, rfl⟩ := own_slice h9
                  obtain ⟨N9, hN9⟩ : ∃ N, N = 0 + j + 1 + (k - j) := ⟨_, rfl⟩
                  rw [← hN9] at h9
                  try rw [← hN9]
                  have HN9 := Lib.hid hN9
                  clear hN9
                  refine pt_q (v := ?_) rfl (by rfl) ?_ ?_
                  rotate_left
                  · intro w' hBw'
                    first | (go_simp; done) | (go_simp; with_reducible rfl)
                  try simp only [Act.put, List.getElem_toArray, List.getElem_cons_zero, List.getElem_cons_succ, List.setIfInBounds_toArray, List.set_cons_zero, List.set_cons_succ]
                  refine pt_c ?_
                  refine pt_put_row rfl (by rfl) 47 _ _ rfl (w.heap.size + 1 + 1) [.slice a9 N9 c9] rfl rfl r9 rfl (by kernel_rfl) rfl (.inl rfl) (fun wA hRA hbA => ?_)
                  try simp only [Act.put, List.getElem_toArray, List.getElem_cons_zero, List.getElem_cons_succ, List.setIfInBounds_toArray, List.set_cons_zero, List.set_cons_succ]
                  refine pt_q (v := ?_) rfl (by rfl) ?_ ?_
                  rotate_left
                  · intro w' hBw'
                    first | (go_simp; done) | (go_simp; with_reducible rfl)
                  try simp only [Act.put, List.getElem_toArray, List.getElem_cons_zero, List.getElem_cons_succ, List.setIfInBounds_toArray, List.set_cons_zero, List.set_cons_succ]
                  refine pt_done ?_
                  have rA := hRA.cell (i := 0) rfl
                  have qA := q9.trans (hbA.below (fun i e => by omega) q9.size)
                  have hgA := fun q hq => (own_of_some h9 (k := q) hq)
                  have sA := (Sl.of_own h9).but hbA (.inr fun q hq e => by have := hgA q hq; omega)
                  have zA := hbA.size
                  go_wp2
                  refine bodyPost_ret (v := .tuple #[.agg #[.slice a9 N9 c9], .int .i64 0]) (by simp [results, Try.results46, go_sem, rA]) rfl ⟨.slice a9 N9 c9, by rw [HA.out], ?_, qA, .inr fun q hq => by have := hgA q hq; exact ⟨by omega, by omega⟩⟩
                  rw [HA.out]
                  have hins : insF L c = L.take j ++ c :: L.drop j := by unfold insF; rw [hpos]
                  have hlen : (insF L c).length = N9 := by have h1 := Hln.out; have h2 := HN9.out; rw [hins]; simp only [List.length_append, List.length_cons, List.length_take, List.length_drop]; omega
                  show Sl wA 5 _ (insF L c).length ((insF L c).flatMap ctC)
                  rw [hlen, hins]
                  simpa using sA
              · refine pt_step rfl (by rfl) (fun K hK => ?_)
                go_simp
                refine hK.out _ _ (But.alloc _ _) ?_
                clear hK K
                try simp only [Act.put, List.getElem_toArray, List.getElem_cons_zero, List.getElem_cons_succ, List.setIfInBounds_toArray, List.set_cons_zero, List.set_cons_succ]
                have hX := below_alloc Wd (.cells (ctC c).toArray 27)
                have s70 := slOne Wd _ rfl 27 c
                have zX := hX.size
                refine pt_c ?_
                refine pt_step rfl (by rfl) (fun K hK => ?_)
                go_simp
                refine hK.out _ _ (But.alloc _ _) ?_
                clear hK K
                try simp only [Act.put, List.getElem_toArray, List.getElem_cons_zero, List.getElem_cons_succ, List.setIfInBounds_toArray, List.set_cons_zero, List.set_cons_succ]
                have hE := below_alloc (Wd.alloc (.cells (ctC c).toArray 27)) (.cells #[] 27)
                have h0 : ((Wd.alloc (.cells (ctC c).toArray 27)).alloc (.cells #[] 27)).ownsRow Wk.heap.size 27 5 (.slice (some ⟨Wd.heap.size + 1, 0, none⟩) 0 0) 0 [] := own0 (Wd.alloc (.cells (ctC c).toArray 27)) (by omega) (by rw [World.size_alloc])
                have zE := hE.size
                refine pt_c ?_
                refine pt_app2 rfl (by rfl) _ _ 38 rfl slC Wk.heap.size rfl h0 rfl (((sl1.up V2.below).up hX).up hE) (one_ct _) (by simp only [maxLen]; omega) (by omega) (by first | omega | (simp only [World.size_alloc] at *; omega)) (fun i hi => .inr hi) (fun v5 w5 h5 hb5 => ?_)
                try simp only [Act.put, List.getElem_toArray, List.getElem_cons_zero, List.getElem_cons_succ, List.setIfInBounds_toArray, List.set_cons_zero, List.set_cons_succ]
                have s7 := (s70.up hE).but hb5 (.inr fun q hq e => by have h1 := Option.some.inj hq; have h2 := Option.some.inj e; simp only [World.size_alloc] at *; omega)
                have r7 := ((V2.r.below hX).below hE).but hb5 (fun e => by have h2 := Option.some.inj e; simp only [World.size_alloc] at *; omega)
                have l7 := (((sl2.up V2.below).up hX).up hE).but hb5 (hbl.imp id fun h q hq e => by have := h q hq; have h2 := Option.some.inj e; simp only [World.size_alloc] at *; omega)
                have z7 := hb5.size
                have q7 := (below_up (below_up V2.below hX) hE).trans (hb5.below (fun i e => by have h2 := Option.some.inj e; simp only [World.size_alloc] at *; omega) (by simp only [World.size_alloc] at *; omega))
                refine pt_c ?_
                refine pt_app2 rfl (by rfl) _ _ 38 rfl slC Wk.heap.size rfl h5 rfl (s7) (one_ct _) (by simp only [maxLen]; omega) (by omega) (by first | omega | (simp only [World.size_alloc] at *; omega)) (fun i hi => .inr hi) (fun v8 w8 h8 hb8 => ?_)
                try simp only [Act.put, List.getElem_toArray, List.getElem_cons_zero, List.getElem_cons_succ, List.setIfInBounds_toArray, List.set_cons_zero, List.set_cons_succ]
                have hg8 := fun q hq => (own_of_some h5 (k := q) hq).1
                have r8 := r7.but hb8 (fun e => by have := hg8 _ e; omega)
                have l8 := l7.but hb8 (hbl.imp id fun h q hq e => by have := h q hq; have := hg8 _ e; omega)
                have z8 := hb8.size
                have q8 := q7.trans (hb8.below (fun i e => by have := hg8 _ e; omega) q7.size)
                refine pt_c ?_
                refine pt_app2 rfl (by rfl) _ _ 38 rfl slC Wk.heap.size rfl h8 rfl (l8) (one_ct _) (by simp only [maxLen]; omega) (by omega) (by first | omega | (simp only [World.size_alloc] at *; omega)) (fun i hi => .inr hi) (fun v9 w9 h9 hb9 => ?_)
                try simp only [Act.put, List.getElem_toArray, List.getElem_cons_zero, List.getElem_cons_succ, List.setIfInBounds_toArray, List.set_cons_zero, List.set_cons_succ]
                have hg9 := fun q hq => (own_of_some h8 (k := q) hq).1
                have r9 := r8.but hb9 (fun e => by have := hg9 _ e; omega)
                have z9 := hb9.size
                have q9 := q8.trans (hb9.below (fun i e => by have := hg9 _ e; omega) q8.size)
                obtain ⟨a9, c9, rfl⟩ := own_slice h9
                obtain ⟨N9, hN9⟩ : ∃ N, N = 0 + j + 1 + (k - j) := ⟨_, rfl⟩
                rw [← hN9] at h9
                try rw [← hN9]
                have HN9 := Lib.hid hN9
                clear hN9
                refine pt_q (v := ?_) rfl (by rfl) ?_ ?_
                rotate_left
                · intro w' hBw'
                  first | (go_simp; done) | (go_simp; with_reducible rfl)
                try simp only [Act.put, List.getElem_toArray, List.getElem_cons_zero, List.getElem_cons_succ, List.setIfInBounds_toArray, List.set_cons_zero, List.set_cons_succ]
                refine pt_c ?_
                refine pt_put_row rfl (by rfl) 47 _ _ rfl (w.heap.size + 1 + 1) [.slice a9 N9 c9] rfl rfl r9 rfl (by kernel_rfl) rfl (.inl rfl) (fun wA hRA hbA => ?_)
                try simp only [Act.put, List.getElem_toArray, List.getElem_cons_zero, List.getElem_cons_succ, List.setIfInBounds_toArray, List.set_cons_zero, List.set_cons_succ]
                refine pt_q (v := ?_) rfl (by rfl) ?_ ?_
                rotate_left
                · intro w' hBw'
                  first | (go_simp; done) | (go_simp; with_reducible rfl)
                try simp only [Act.put, List.getElem_toArray, List.getElem_cons_zero, List.getElem_cons_succ, List.setIfInBounds_toArray, List.set_cons_zero, List.set_cons_succ]
                refine pt_done ?_
                have rA := hRA.cell (i := 0) rfl
                have qA := q9.trans (hbA.below (fun i e => by omega) q9.size)
                have hgA := fun q hq => (own_of_some h9 (k := q) hq)
                have sA := (Sl.of_own h9).but hbA (.inr fun q hq e => by have := hgA q hq; omega)
                have zA := hbA.size
                go_wp2
                refine bodyPost_ret (v := .tuple #[.agg #[.slice a9 N9 c9], .int .i64 0]) (by simp [results, Try.results46, go_sem, rA]) rfl ⟨.slice a9 N9 c9, by rw [HA.out], ?_, qA, .inr fun q hq => by have := hgA q hq; exact ⟨by omega, by omega⟩⟩
                rw [HA.out]
                have hins : insF L c = L.take j ++ c :: L.drop j := by unfold insF; rw [hpos]
                have hlen : (insF L c).length = N9 := by have h1 := Hln.out; have h2 := HN9.out; rw [hins]; simp only [List.length_append, List.length_cons, List.length_take, List.length_drop]; omega
                show Sl wA 5 _ (insF L c).length ((insF L c).flatMap ctC)
                rw [hlen, hins]
                simpa using sA
end Go.Proofs.Ytgbpdchdcbnoaaa
