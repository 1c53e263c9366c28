/-
  Contracts of the reference's Ahead, At, Same.
-/
import Derived.Test.YtgbpdchdcbnoaaaConL
namespace Go.Proofs.Ytgbpdchdcbnoaaa
open Go.RowKit Vol
set_option linter.unusedSimpArgs false
set_option linter.unusedVariables false

set_option maxHeartbeats 1000000 in
set_option maxRecDepth 100000 in
theorem rAhead_c (x y : Ct) (w : World) : Calls Try.prog 69 #[ctV x, ctV y] w (Ret (.bool (decide (ordF x y < 0))) w) := by
  have hB2 : Below w.heap.size w ((w.alloc (.cells (ctC x).toArray 27)).alloc (.cells (ctC y).toArray 27)) := (below_alloc w _).alloc (by simp) _
  have hd := (ordF_cases x y).1
  obtain ⟨z, hz⟩ : ∃ z, z = decide (ordF x y < 0) := ⟨_, rfl⟩
  rw [← hz]
  have HZ := Lib.hid hz
  have HD := Lib.hid hd
  clear hz hd
  by_cases h1 : x.from_ = y.from_
  · have b1 : (x.from_ != y.from_) = false := by simp [h1]
    have b1' : (x.from_ == y.from_) = true := by simp [h1]
    by_cases h2 : x.to = y.to
    · have b2 : (x.to != y.to) = false := by simp [h2]
      have b2' : (x.to == y.to) = true := by simp [h2]
      have hv : z = decide (x.a < y.a) := by rw [HZ.out]; simp only [decide_eq_decide]; rw [HD.out]; omega
      subst hv
      clear HZ h1 h2
      go_enter Try.func69, Try.ntmps69
      go_wp2
      go_ret
      exact ⟨rfl, hB2⟩
    · have b2 : (x.to != y.to) = true := by simp [h2]
      have b2' : (x.to == y.to) = false := by rw [beq_eq_false_iff_ne]; exact h2
      have hv : z = decide (x.to < y.to) := by rw [HZ.out]; simp only [decide_eq_decide]; rw [HD.out]; omega
      subst hv
      clear HZ h1
      go_enter Try.func69, Try.ntmps69
      go_wp2
      go_ret
      exact ⟨rfl, hB2⟩
  · have b1 : (x.from_ != y.from_) = true := by simp [h1]
    have b1' : (x.from_ == y.from_) = false := by rw [beq_eq_false_iff_ne]; exact h1
    have hv : z = decide (x.from_ < y.from_) := by rw [HZ.out]; simp only [decide_eq_decide]; rw [HD.out]; omega
    subst hv
    clear HZ
    go_enter Try.func69, Try.ntmps69
    go_wp2
    go_ret
    exact ⟨rfl, hB2⟩

set_option maxHeartbeats 2000000 in
set_option maxRecDepth 100000 in
theorem rAt_c (L : List Ct) (v : Value) (n : Nat) (f t at_ : Int) (w : World) (hv : Sl w 5 v n (L.flatMap ctC)) :
    Calls Try.prog 50 #[.agg #[v], .int .u32 f, .int .u32 t, .int .u64 at_] w (Ret (.int .i64 (atF L f t at_)) w) := by
  have Hln := Lib.hid (Sl.recs (cells := ctC) (sz := 5) (fun _ => rfl) (by decide) hv)
  have hn := hv.n_max
  obtain ⟨av, cv, rfl⟩ := hv.len
  have hB0 := below_alloc w (.cells #[.slice av n cv] 47)
  have K0 := RowAt.new w #[.slice av n cv] 47
  obtain ⟨z, hz⟩ : ∃ z, z = atF L f t at_ := ⟨_, rfl⟩
  rw [← hz]
  have HZ := Lib.hid hz
  clear hz
  go_enter Try.func50, Try.ntmps50
  go_wp2
  go_loopw [9] (fun i wr => ∃ k : Nat, k ≤ n ∧ i = .int .i64 k ∧ RowKit.Hid (∀ j (hj : j < L.length), j < k → btwB f t (fun x y => Clk.inB x y at_) L[j] = false) ∧ RowAt wr w.heap.size #[.slice av n cv] 47 ∧ Below w.heap.size w wr) (fun i _ => n - (intOf i).toNat)
  case atStart => exact ⟨0, Nat.zero_le _, rfl, Lib.hid (fun j hj h => by omega), K0, hB0⟩
  case round =>
    clear K0 hB0
    obtain ⟨k, hk, rfl, Hno, K, hB⟩ := hrel
    have c0 := K.cell (i := 0) (v := .slice av n cv) rfl
    by_cases hlt : k < n
    · have hltI : (k : Int) < (n : Int) := by omega
      have hlt' : k < L.length := by rw [Hln.out]; exact hlt
      obtain ⟨b, off, rfl, hr⟩ := (hv.up hB).rec_at (cells := ctC) (sz := 5) (fun _ => rfl) hlt hlt'
      have Hidx := Lib.hid (fun h : btwB f t (fun x y => Clk.inB x y at_) L[k] = true => show z = (k : Int) from HZ.out.trans (idx_some hlt' (fun j hj hj' => Hno.out j hj' hj) h))
      have Hstep := Lib.hid (fun (h : btwB f t (fun x y => Clk.inB x y at_) L[k] = false) j (hj' : j < L.length) (hj : j < k + 1) => (show btwB f t (fun x y => Clk.inB x y at_) L[j] = false from by
        rcases Nat.lt_or_ge j k with h' | h'
        · exact Hno.out j hj' h'
        · obtain rfl : j = k := by omega
          exact h))
      generalize L[k] = x at *
      have r0 := hr 0 _ rfl
      have r1 := hr 1 _ rfl
      have r2 := hr 2 _ rfl
      have r3 := hr 3 _ rfl
      simp only [Nat.add_zero] at r0
      have hin := fun w => inR_c x.a x.b at_ w
      cases hb1 : (x.from_ == f) with
      | false =>
        have e1 : ¬ x.from_ = f := by simpa using hb1
        have Hp := Lib.hid (Hstep.out (by simp [btwB, e1]))
        go_wp2
        go_roundw
        case rel => exact ⟨k + 1, by omega, by go_num, Hp, K, hB⟩
        case measure => simp [intOf]; omega
      | true =>
        have e1 : x.from_ = f := by simpa using hb1
        cases hb2 : (x.to == t) with
        | false =>
          have e2 : ¬ x.to = t := by simpa using hb2
          have Hp := Lib.hid (Hstep.out (by simp [btwB, e2]))
          clear e1
          go_wp2
          go_roundw
          case rel => exact ⟨k + 1, by omega, by go_num, Hp, K, hB⟩
          case measure => simp [intOf]; omega
        | true =>
          have e2 : x.to = t := by simpa using hb2
          cases hb3 : Clk.inB x.a x.b at_ with
          | false =>
            have Hp := Lib.hid (Hstep.out (by simp [btwB, hb3]))
            rw [hb3] at hin
            clear e1 e2 hb3
            go_wp2_with (go_at_call 71; refine (hin _).mono ?_; rintro en w2 ⟨rfl, hb⟩)
            go_roundw
            case rel => exact ⟨k + 1, by omega, by go_num, Hp, K.below hb, below_up hB hb⟩
            case measure => simp [intOf]; omega
          | true =>
            have Hp := Lib.hid (Hidx.out (by simp [btwB, hb3, e1, e2]))
            rw [hb3] at hin
            clear e1 e2 hb3
            go_wp2_with (go_at_call 71; refine (hin _).mono ?_; rintro en w2 ⟨rfl, hb⟩)
            go_ret
            exact ⟨retI Hp.out.symm, below_up hB hb⟩
    · obtain rfl : k = n := by omega
      have hz1 : z = -1 := HZ.out.trans (idx_none fun j hj => Hno.out j hj (by rw [← Hln.out]; exact hj))
      go_wp2
      go_ret
      exact ⟨retI hz1.symm, hB⟩

theorem ct_neql (c d : Ct) (w : World) : (binOp .neq 27 (ctV c) (ctV d)).run Try.prog w = .ok (.bool (!decide (c = d))) w := by
  obtain ⟨c1, c2, c3, c4, c5⟩ := c
  obtain ⟨d1, d2, d3, d4, d5⟩ := d
  by_cases h1 : c1 = d1
  · subst h1
    by_cases h2 : c2 = d2
    · subst h2
      by_cases h3 : c3 = d3
      · subst h3
        by_cases h4 : c4 = d4
        · subst h4
          by_cases h5 : c5 = d5
          · subst h5; simp [go_sem]
          · simp [go_sem, h5]
        · simp [go_sem, h4]
      · simp [go_sem, h3]
    · simp [go_sem, h2]
  · simp [go_sem, h1]

set_option maxHeartbeats 2000000 in
set_option maxRecDepth 100000 in
theorem rSame_c (l m : List Ct) (v u : Value) (n k : Nat) (w : World) (hv : Sl w 5 v n (l.flatMap ctC)) (hu : Sl w 5 u k (m.flatMap ctC)) :
    Calls Try.prog 24 #[.agg #[v], .agg #[u]] w (Ret (.bool (decide (l = m))) w) := by
  have Hln := Lib.hid (Sl.recs (cells := ctC) (sz := 5) (fun _ => rfl) (by decide) hv)
  have Hmk := Lib.hid (Sl.recs (cells := ctC) (sz := 5) (fun _ => rfl) (by decide) hu)
  have hn := hv.n_max
  have hk := hu.n_max
  obtain ⟨a, c, rfl⟩ := hv.len
  obtain ⟨a2, c2, rfl⟩ := hu.len
  obtain ⟨R, hR⟩ : ∃ R, R = decide (l = m) := ⟨_, rfl⟩
  rw [← hR]
  have HR := Lib.hid hR
  clear hR
  have hB2 : Below w.heap.size w ((w.alloc (.cells #[.slice a n c] 47)).alloc (.cells #[.slice a2 k c2] 47)) := (below_alloc w _).alloc (by simp) _
  have X := (RowAt.new w #[.slice a n c] 47).alloc (.cells #[.slice a2 k c2] 47)
  have Y := RowAt.new (w.alloc (.cells #[.slice a n c] 47)) #[.slice a2 k c2] 47
  rw [World.size_alloc] at Y
  by_cases hnk : n = k
  · subst hnk
    go_enter Try.func24, Try.ntmps24
    go_wp2
    go_loopw [5] (fun i wr => ∃ j : Nat, j ≤ n ∧ i = .int .i64 j ∧ RowKit.Hid (l.take j = m.take j) ∧ RowAt wr w.heap.size #[.slice a n c] 47 ∧ RowAt wr (w.heap.size + 1) #[.slice a2 n c2] 47 ∧ Below w.heap.size w wr) (fun i _ => n - (intOf i).toNat)
    case atStart => exact ⟨0, Nat.zero_le _, rfl, Lib.hid rfl, X, Y, hB2⟩
    case round =>
      clear X Y hB2
      obtain ⟨j, hj, rfl, Hsame, X, Y, hB⟩ := hrel
      have cx := X.cell (i := 0) (v := .slice a n c) rfl
      have cy := Y.cell (i := 0) (v := .slice a2 n c2) rfl
      by_cases hlt : j < n
      · have hl' : j < l.length := by rw [Hln.out]; exact hlt
        have hm' : j < m.length := by rw [Hmk.out]; exact hlt
        have hltI : (j : Int) < (n : Int) := by omega
        have hj0 : (0 : Int) ≤ (j : Int) := by omega
        obtain ⟨b, off, rfl, hr⟩ := (hv.up hB).rec_at (cells := ctC) (sz := 5) (fun _ => rfl) hlt hl'
        obtain ⟨b2, off2, rfl, hr2⟩ := (hu.up hB).rec_at (cells := ctC) (sz := 5) (fun _ => rfl) hlt hm'
        have hs1 : l.take (j + 1) = l.take j ++ [l[j]] := List.take_succ_eq_append_getElem hl'
        have hs2 : m.take (j + 1) = m.take j ++ [m[j]] := List.take_succ_eq_append_getElem hm'
        have Hs := Lib.hid (fun h : l[j] = m[j] => show l.take (j + 1) = m.take (j + 1) by rw [hs1, hs2, h, Hsame.out])
        have Hno := Lib.hid (fun h : ¬ l[j] = m[j] => show R = false by
          rw [HR.out]
          refine decide_eq_false fun e => h ?_
          subst e; rfl)
        clear hs1 hs2
        generalize l[j] = x at *
        generalize m[j] = y at *
        have hq := ct_neql x y
        go_wp2
        refine wp_region_pi [(0, false), (1, false), (2, false), (3, false), (4, false), (5, false), (6, false), (7, false), (8, false), (9, false), (10, false)] (by kernel_rfl) (by kernel_rfl) (by kernel_rfl) rfl (fun _ _ d _ _ h => by cases d <;> exact h) (fun Wd hBd => ?_)
        try simp only [Act.put, List.getElem_toArray, List.getElem_cons_zero, List.getElem_cons_succ, List.setIfInBounds_toArray, List.set_cons_zero, List.set_cons_succ]
        have r1 := rangeAt_up hBd hr
        have r2 := rangeAt_up hBd hr2
        have X1 := X.below hBd
        have Y1 := Y.below hBd
        have HB := Lib.hid (below_up hB hBd)
        have qx : ∀ w', Below Wd.heap.size Wd w' → w'.cell? ⟨w.heap.size, 0, none⟩ = some (.slice (some ⟨b, off, none⟩) n c) := fun w' h => cell_up h (X1.cell (i := 0) rfl)
        have qy : ∀ w', Below Wd.heap.size Wd w' → w'.cell? ⟨w.heap.size + 1, 0, none⟩ = some (.slice (some ⟨b2, off2, none⟩) n c2) := fun w' h => cell_up h (Y1.cell (i := 0) rfl)
        obtain ⟨d, hd⟩ : ∃ d, d = decide (x = y) := ⟨_, rfl⟩
        rw [← hd] at hq
        have HDd := Lib.hid hd
        clear hd
        refine pi_q (v := ?_) rfl (by rfl) ?_ ?_
        rotate_left
        · intro w' hBw'
          first | (go_simp; done) | (go_simp; with_reducible rfl)
        try simp only [Act.put, List.getElem_toArray, List.getElem_cons_zero, List.getElem_cons_succ, List.setIfInBounds_toArray, List.set_cons_zero, List.set_cons_succ]
        refine pi_q (v := ?_) rfl (by rfl) ?_ ?_
        rotate_left
        · intro w' hBw'
          first | (go_simp; done) | (go_simp; with_reducible rfl)
        try simp only [Act.put, List.getElem_toArray, List.getElem_cons_zero, List.getElem_cons_succ, List.setIfInBounds_toArray, List.set_cons_zero, List.set_cons_succ]
        refine pi_q (v := ?_) rfl (by rfl) ?_ ?_
        rotate_left
        · intro w' hBw'
          first | (go_simp; done) | (go_simp; with_reducible rfl)
        try simp only [Act.put, List.getElem_toArray, List.getElem_cons_zero, List.getElem_cons_succ, List.setIfInBounds_toArray, List.set_cons_zero, List.set_cons_succ]
        refine pi_q (v := ?_) rfl (by rfl) ?_ ?_
        rotate_left
        · intro w' hBw'
          first | (go_simp; done) | (go_simp; with_reducible rfl)
        try simp only [Act.put, List.getElem_toArray, List.getElem_cons_zero, List.getElem_cons_succ, List.setIfInBounds_toArray, List.set_cons_zero, List.set_cons_succ]
        refine pi_load rfl (by rfl) 27 (.tmp 23) rfl b (off + j * 5) rfl (ctC x) _ r1 Try.underlying27 rfl (by kernel_rfl) ?_
        try simp only [Act.put, List.getElem_toArray, List.getElem_cons_zero, List.getElem_cons_succ, List.setIfInBounds_toArray, List.set_cons_zero, List.set_cons_succ]
        refine pi_q (v := ?_) rfl (by rfl) ?_ ?_
        rotate_left
        · intro w' hBw'
          first | (go_simp; done) | (go_simp; with_reducible rfl)
        try simp only [Act.put, List.getElem_toArray, List.getElem_cons_zero, List.getElem_cons_succ, List.setIfInBounds_toArray, List.set_cons_zero, List.set_cons_succ]
        refine pi_q (v := ?_) rfl (by rfl) ?_ ?_
        rotate_left
        · intro w' hBw'
          first | (go_simp; done) | (go_simp; with_reducible rfl)
        try simp only [Act.put, List.getElem_toArray, List.getElem_cons_zero, List.getElem_cons_succ, List.setIfInBounds_toArray, List.set_cons_zero, List.set_cons_succ]
        refine pi_q (v := ?_) rfl (by rfl) ?_ ?_
        rotate_left
        · intro w' hBw'
          first | (go_simp; done) | (go_simp; with_reducible rfl)
        try simp only [Act.put, List.getElem_toArray, List.getElem_cons_zero, List.getElem_cons_succ, List.setIfInBounds_toArray, List.set_cons_zero, List.set_cons_succ]
        refine pi_q (v := ?_) rfl (by rfl) ?_ ?_
        rotate_left
        · intro w' hBw'
          first | (go_simp; done) | (go_simp; with_reducible rfl)
        try simp only [Act.put, List.getElem_toArray, List.getElem_cons_zero, List.getElem_cons_succ, List.setIfInBounds_toArray, List.set_cons_zero, List.set_cons_succ]
        refine pi_load rfl (by rfl) 27 (.tmp 28) rfl b2 (off2 + j * 5) rfl (ctC y) _ r2 Try.underlying27 rfl (by kernel_rfl) ?_
        try simp only [Act.put, List.getElem_toArray, List.getElem_cons_zero, List.getElem_cons_succ, List.setIfInBounds_toArray, List.set_cons_zero, List.set_cons_succ]
        refine pi_q (v := ?_) rfl (by rfl) ?_ ?_
        rotate_left
        · intro w' hBw'
          first | (go_simp; done) | (go_simp; with_reducible rfl)
        try simp only [Act.put, List.getElem_toArray, List.getElem_cons_zero, List.getElem_cons_succ, List.setIfInBounds_toArray, List.set_cons_zero, List.set_cons_succ]
        refine pi_nil ?_
        clear qx qy r1 r2 hr hr2 X Y cx cy hB hBd
        cases d with
        | true =>
          have Hst := Lib.hid (Hs.out (of_decide_eq_true HDd.out.symm))
          clear Hs Hno
          go_wp2
          go_roundw
          case rel => exact ⟨j + 1, by omega, by go_num, Hst, X1, Y1, HB.out⟩
          case measure => simp [intOf]; omega
        | false =>
          have Hf := Lib.hid (Hno.out (of_decide_eq_false HDd.out.symm))
          clear Hs Hno
          go_wp2
          go_ret
          exact ⟨retB Hf.out.symm, HB.out⟩
      · obtain rfl : j = n := by omega
        have HRt : R = true := by
          rw [HR.out]
          refine decide_eq_true ?_
          have := Hsame.out
          rwa [List.take_of_length_le (by rw [Hln.out]; exact Nat.le_refl _), List.take_of_length_le (by rw [Hmk.out]; exact Nat.le_refl _)] at this
        go_wp2
        go_ret
        exact ⟨retB HRt.symm, hB⟩
  · have hne : ¬ ((n : Int) = (k : Int)) := by omega
    have HRf : R = false := by
      rw [HR.out]
      refine decide_eq_false fun e => hnk ?_
      have h1 := Hln.out
      have h2 := Hmk.out
      rw [e] at h1; omega
    go_enter Try.func24, Try.ntmps24
    go_wp2
    go_ret
    exact ⟨retB HRf.symm, hB2⟩
end Go.Proofs.Ytgbpdchdcbnoaaa
