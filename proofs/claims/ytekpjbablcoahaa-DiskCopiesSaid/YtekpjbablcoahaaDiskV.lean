/-
  The reference: Same.
-/
import Derived.Test.YtekpjbablcoahaaDiskP
import Derived.Test.YtekpjbablcoahaaDiskM
namespace Go.Proofs.Ytekpjbablcoahaa
open Go.RowKit Go.Maps Dk
set_option linter.unusedSimpArgs false
set_option linter.unusedVariables false

theorem str_ne {s t : Sec} (h : ¬ s = t) : ¬ (⟨s.1.toArray⟩ : ByteArray) = ⟨t.1.toArray⟩ := by
  intro e
  refine h (Subtype.ext ?_)
  have := congrArg ByteArray.data e
  exact congrArg Array.toList this
theorem sec_beq (s t : Sec) : (s.1 == t.1) = decide (s = t) := by
  by_cases h : s = t
  · subst h; simp
  · have : ¬ s.1 = t.1 := fun e => h (Subtype.ext e)
    simp [h, this]
theorem str_neql (s t : Sec) (w : World) : (binOp .neq 9 (strV s) (strV t)).run Try.prog w = .ok (.bool (!decide (s = t))) w := by
  by_cases h : s = t
  · subst h; simp [go_sem]
  · have := str_ne h
    simp only [strV] at this ⊢
    simp [go_sem, h]
    exact fun e => h (Subtype.ext e)
theorem rp_neql (p q : Int × Sec) (w : World) : (binOp .neq 62 (.agg #[.int .i64 p.1, strV p.2]) (.agg #[.int .i64 q.1, strV q.2])).run Try.prog w = .ok (.bool (!decide (p = q))) w := by
  obtain ⟨a, s⟩ := p
  obtain ⟨b, t⟩ := q
  by_cases h1 : a = b
  · subst h1
    by_cases h : s = t
    · subst h; simp [go_sem]
    · have := str_ne h
      simp [go_sem, h]
      exact fun e => h (Subtype.ext e)
  · simp [go_sem, h1]
/-- Are two of the document's disks the same? -/
def Dk.sameR (r s : RDisk) : Bool := decide (r.L = s.L ∧ r.W = s.W ∧ r.armed = s.armed)
set_option maxRecDepth 100000 in
theorem rSameNo_c (r s : RDisk) (h : ¬ (r.L.length = s.L.length ∧ r.W.length = s.W.length ∧ r.armed = s.armed)) (v u : Value) (w : World) (hv : RefAt w v r) (hu : RefAt w u s) :
    Calls Try.prog 24 #[v, u] w (Ret (.bool (sameR r s)) w) := by
  have hR : sameR r s = false := decide_eq_false fun e => h ⟨by rw [e.1], by rw [e.2.1], e.2.2⟩
  rw [hR]
  obtain ⟨lv, wv, rfl, hl, hw⟩ := hv.ex
  obtain ⟨la, lc, rfl⟩ := hl.len
  obtain ⟨wa, wc, rfl⟩ := hw.len
  obtain ⟨lv2, wv2, rfl, hl2, hw2⟩ := hu.ex
  obtain ⟨la2, lc2, rfl⟩ := hl2.len
  obtain ⟨wa2, wc2, rfl⟩ := hw2.len
  by_cases k1 : r.L.length = s.L.length
  · have e1 : ((r.L.length : Int) != (s.L.length : Int)) = false := by simp; omega
    have i1 : (r.L.length : Int) = (s.L.length : Int) := by omega
    by_cases k2 : r.W.length = s.W.length
    · have e2 : ((r.W.length : Int) != (s.W.length : Int)) = false := by simp; omega
      have i2 : (r.W.length : Int) = (s.W.length : Int) := by omega
      have k3 : ¬ r.armed = s.armed := fun e => h ⟨k1, k2, e⟩
      have e3 : (r.armed != s.armed) = true := by simp [k3]
      clear k1 k2 h
      go_enter Try.func24, Try.ntmps24
      go_wp2
      go_ret
      refine ⟨rfl, ?_⟩
      all_goals (repeat (first | exact Below.refl _ _ | refine Below.setCell ?_ (by simp <;> omega) _ | refine Below.alloc ?_ (by simp <;> omega) _))
    · have e2 : ((r.W.length : Int) != (s.W.length : Int)) = true := by simp; omega
      have i2 : ¬ (r.W.length : Int) = (s.W.length : Int) := by omega
      clear k1 k2 h
      go_enter Try.func24, Try.ntmps24
      go_wp2
      go_ret
      refine ⟨rfl, ?_⟩
      all_goals (repeat (first | exact Below.refl _ _ | refine Below.setCell ?_ (by simp <;> omega) _ | refine Below.alloc ?_ (by simp <;> omega) _))
  · have e2 : ((r.L.length : Int) != (s.L.length : Int)) = true := by simp; omega
    have i2 : ¬ (r.L.length : Int) = (s.L.length : Int) := by omega
    clear k1 h
    go_enter Try.func24, Try.ntmps24
    go_wp2
    go_ret
    refine ⟨rfl, ?_⟩
    all_goals (repeat (first | exact Below.refl _ _ | refine Below.setCell ?_ (by simp <;> omega) _ | refine Below.alloc ?_ (by simp <;> omega) _))
set_option maxHeartbeats 4000000 in
set_option maxRecDepth 100000 in
theorem rSameYes_c (r s : RDisk) (h : r.L.length = s.L.length ∧ r.W.length = s.W.length ∧ r.armed = s.armed) (v u : Value) (w : World) (hv : RefAt w v r) (hu : RefAt w u s) :
    Calls Try.prog 24 #[v, u] w (Ret (.bool (sameR r s)) w) := by
  obtain ⟨R, hR⟩ : ∃ R, R = sameR r s := ⟨_, rfl⟩
  rw [← hR]
  have HR := Lib.hid hR
  clear hR
  obtain ⟨L, P, am⟩ := r
  obtain ⟨L2, P2, am2⟩ := s
  obtain ⟨hLL, hPP, rfl⟩ := h
  simp only at hLL hPP
  obtain ⟨lv, wv, rfl, hl, hw⟩ := hv.ex
  obtain ⟨lv2, wv2, rfl, hl2, hw2⟩ := hu.ex
  simp only at hl hw hl2 hw2
  obtain ⟨n, hn⟩ : ∃ n, n = L.length := ⟨_, rfl⟩
  obtain ⟨m, hm⟩ : ∃ m, m = P.length := ⟨_, rfl⟩
  rw [← hLL, ← hn] at hl2
  rw [← hn] at hl
  rw [← hPP, ← hm] at hw2
  rw [← hm] at hw
  have hnm := hl.n_max
  have hmm := hw.n_max
  obtain ⟨la, lc, rfl⟩ := hl.len
  obtain ⟨pa, pc, rfl⟩ := hw.len
  obtain ⟨la2, lc2, rfl⟩ := hl2.len
  obtain ⟨pa2, pc2, rfl⟩ := hw2.len
  have HL1 := Lib.hid hn.symm
  have HP1 := Lib.hid hm.symm
  have HL2 := Lib.hid (hLL.symm.trans hn.symm)
  have HP2 := Lib.hid (hPP.symm.trans hm.symm)
  clear hLL hPP hn hm hv hu
  have hB2 : Below w.heap.size w ((w.alloc (.cells #[.slice la n lc, .slice pa m pc, .int .i64 am] 47)).alloc (.cells #[.slice la2 n lc2, .slice pa2 m pc2, .int .i64 am] 47)) := (below_alloc w _).alloc (by simp) _
  have X := (RowAt.new w #[.slice la n lc, .slice pa m pc, .int .i64 am] 47).alloc (.cells #[.slice la2 n lc2, .slice pa2 m pc2, .int .i64 am] 47)
  have Y := RowAt.new (w.alloc (.cells #[.slice la n lc, .slice pa m pc, .int .i64 am] 47)) #[.slice la2 n lc2, .slice pa2 m pc2, .int .i64 am] 47
  rw [World.size_alloc] at Y
  go_enter Try.func24, Try.ntmps24
  go_wp2
  go_loopw [5] (fun i wr => ∃ j : Nat, j ≤ n ∧ i = .int .i64 j ∧ RowKit.Hid (L.take j = L2.take j) ∧ RowAt wr w.heap.size #[.slice la n lc, .slice pa m pc, .int .i64 am] 47 ∧ RowAt wr (w.heap.size + 1) #[.slice la2 n lc2, .slice pa2 m pc2, .int .i64 am] 47 ∧ Below w.heap.size w wr) (fun i _ => n - (intOf i).toNat)
  case atStart => exact ⟨0, Nat.zero_le _, rfl, Lib.hid rfl, X, Y, hB2⟩
  case round =>
    clear X Y hB2
    obtain ⟨j, hj, rfl, Hsame, X, Y, hB⟩ := hrel
    by_cases hlt : j < n
    · have cx := X.cell (i := 0) rfl
      have cy := Y.cell (i := 0) rfl
      have hl' : j < L.length := by rw [HL1.out]; exact hlt
      have hm' : j < L2.length := by rw [HL2.out]; exact hlt
      have hltI : (j : Int) < (n : Int) := by omega
      have hj0 : (0 : Int) ≤ (j : Int) := by omega
      obtain ⟨b, off0, rfl, hr⟩ := (hl.up hB).cellAt (k := j) (by omega) (by omega)
      obtain ⟨b2, off02, rfl, hr2⟩ := (hl2.up hB).cellAt (k := j) (by omega) (by omega)
      rw [List.getElem?_map, List.getElem?_eq_getElem hl', Option.map_some] at hr
      rw [List.getElem?_map, List.getElem?_eq_getElem hm', Option.map_some] at hr2
      have hs1 : L.take (j + 1) = L.take j ++ [L[j]] := List.take_succ_eq_append_getElem hl'
      have hs2 : L2.take (j + 1) = L2.take j ++ [L2[j]] := List.take_succ_eq_append_getElem hm'
      have Hs := Lib.hid (fun h : L[j] = L2[j] => show L.take (j + 1) = L2.take (j + 1) by rw [hs1, hs2, h, Hsame.out])
      have Hno := Lib.hid (fun h : ¬ L[j] = L2[j] => show R = false by
        rw [HR.out]
        refine decide_eq_false fun e => h ?_
        have e1 := e.1
        simp only at e1
        subst e1; rfl)
      clear hs1 hs2
      generalize L[j] = x at *
      generalize L2[j] = y at *
      have hq := sec_beq x y
      go_wp2
      refine wp_region_pi [(0, false), (1, false), (2, false), (3, false), (4, false), (5, false), (6, false), (7, false), (8, false), (9, false), (10, false)] (by kernel_rfl) (by kernel_rfl) (by kernel_rfl) rfl (fun _ _ d _ _ h => by cases d <;> exact h) (fun Wd hBd => ?_)
      try simp only [Act.put, List.getElem_toArray, List.getElem_cons_zero, List.getElem_cons_succ, List.setIfInBounds_toArray, List.set_cons_zero, List.set_cons_succ]
      have r1 := cell_up hBd hr
      have r2 := cell_up hBd hr2
      have X1 := X.below hBd
      have Y1 := Y.below hBd
      have HB := Lib.hid (below_up hB hBd)
      have qx : ∀ w', Below Wd.heap.size Wd w' → w'.cell? ⟨w.heap.size, 0, none⟩ = some (.slice (some ⟨b, off0, none⟩) n lc) := fun w' h => cell_up h (X1.cell (i := 0) rfl)
      have qy : ∀ w', Below Wd.heap.size Wd w' → w'.cell? ⟨w.heap.size + 1, 0, none⟩ = some (.slice (some ⟨b2, off02, none⟩) n lc2) := fun w' h => cell_up h (Y1.cell (i := 0) rfl)
      have qc : ∀ w', Below Wd.heap.size Wd w' → w'.cell? ⟨b, off0 + j, none⟩ = some (strV x) := fun w' h => cell_up h r1
      have qd : ∀ w', Below Wd.heap.size Wd w' → w'.cell? ⟨b2, off02 + j, none⟩ = some (strV y) := fun w' h => cell_up h r2
      obtain ⟨d, hd⟩ : ∃ d, d = decide (x = y) := ⟨_, rfl⟩
      rw [← hd] at hq
      have HDd := Lib.hid hd
      clear hd
      refine pi_q (v := ?_) rfl (by rfl) ?_ ?_
      rotate_left
      · intro w' hBw'
        first | (go_simp; done) | (go_simp; with_reducible rfl)
      try simp only [Act.put, List.getElem_toArray, List.getElem_cons_zero, List.getElem_cons_succ, List.setIfInBounds_toArray, List.set_cons_zero, List.set_cons_succ]
      refine pi_q (v := ?_) rfl (by rfl) ?_ ?_
      rotate_left
      · intro w' hBw'
        first | (go_simp; done) | (go_simp; with_reducible rfl)
      try simp only [Act.put, List.getElem_toArray, List.getElem_cons_zero, List.getElem_cons_succ, List.setIfInBounds_toArray, List.set_cons_zero, List.set_cons_succ]
      refine pi_q (v := ?_) rfl (by rfl) ?_ ?_
      rotate_left
      · intro w' hBw'
        first | (go_simp; done) | (go_simp; with_reducible rfl)
      try simp only [Act.put, List.getElem_toArray, List.getElem_cons_zero, List.getElem_cons_succ, List.setIfInBounds_toArray, List.set_cons_zero, List.set_cons_succ]
      refine pi_q (v := ?_) rfl (by rfl) ?_ ?_
      rotate_left
      · intro w' hBw'
        first | (go_simp; done) | (go_simp; with_reducible rfl)
      try simp only [Act.put, List.getElem_toArray, List.getElem_cons_zero, List.getElem_cons_succ, List.setIfInBounds_toArray, List.set_cons_zero, List.set_cons_succ]
      refine pi_q (v := ?_) rfl (by rfl) ?_ ?_
      rotate_left
      · intro w' hBw'
        first | (go_simp; done) | (go_simp; with_reducible rfl)
      try simp only [Act.put, List.getElem_toArray, List.getElem_cons_zero, List.getElem_cons_succ, List.setIfInBounds_toArray, List.set_cons_zero, List.set_cons_succ]
      refine pi_q (v := ?_) rfl (by rfl) ?_ ?_
      rotate_left
      · intro w' hBw'
        first | (go_simp; done) | (go_simp; with_reducible rfl)
      try simp only [Act.put, List.getElem_toArray, List.getElem_cons_zero, List.getElem_cons_succ, List.setIfInBounds_toArray, List.set_cons_zero, List.set_cons_succ]
      refine pi_q (v := ?_) rfl (by rfl) ?_ ?_
      rotate_left
      · intro w' hBw'
        first | (go_simp; done) | (go_simp; with_reducible rfl)
      try simp only [Act.put, List.getElem_toArray, List.getElem_cons_zero, List.getElem_cons_succ, List.setIfInBounds_toArray, List.set_cons_zero, List.set_cons_succ]
      refine pi_q (v := ?_) rfl (by rfl) ?_ ?_
      rotate_left
      · intro w' hBw'
        first | (go_simp; done) | (go_simp; with_reducible rfl)
      try simp only [Act.put, List.getElem_toArray, List.getElem_cons_zero, List.getElem_cons_succ, List.setIfInBounds_toArray, List.set_cons_zero, List.set_cons_succ]
      refine pi_q (v := ?_) rfl (by rfl) ?_ ?_
      rotate_left
      · intro w' hBw'
        first | (go_simp; done) | (go_simp; with_reducible rfl)
      try simp only [Act.put, List.getElem_toArray, List.getElem_cons_zero, List.getElem_cons_succ, List.setIfInBounds_toArray, List.set_cons_zero, List.set_cons_succ]
      refine pi_q (v := ?_) rfl (by rfl) ?_ ?_
      rotate_left
      · intro w' hBw'
        first | (go_simp; done) | (go_simp; with_reducible rfl)
      try simp only [Act.put, List.getElem_toArray, List.getElem_cons_zero, List.getElem_cons_succ, List.setIfInBounds_toArray, List.set_cons_zero, List.set_cons_succ]
      refine pi_q (v := ?_) rfl (by rfl) ?_ ?_
      rotate_left
      · intro w' hBw'
        first | (go_simp; done) | (go_simp; with_reducible rfl)
      try simp only [Act.put, List.getElem_toArray, List.getElem_cons_zero, List.getElem_cons_succ, List.setIfInBounds_toArray, List.set_cons_zero, List.set_cons_succ]
      refine pi_nil ?_
      clear qx qy qc qd r1 r2 hr hr2 cx cy X Y hB hBd
      cases d with
      | true =>
        have Hst := Lib.hid (Hs.out (of_decide_eq_true HDd.out.symm))
        clear Hs Hno
        go_wp2
        refine ⟨⟨j + 1, by omega, by go_num, Hst, X1, Y1, HB.out⟩, ?_⟩
        simp [intOf]; omega
      | false =>
        have Hf := Lib.hid (Hno.out (of_decide_eq_false HDd.out.symm))
        clear Hs Hno
        go_wp2
        go_ret
        exact ⟨retB Hf.out.symm, HB.out⟩
    · obtain rfl : j = n := by omega
      have HLE : RowKit.Hid (L = L2) := Lib.hid (by
        have := Hsame.out
        rwa [List.take_of_length_le (by rw [HL1.out]; exact Nat.le_refl _), List.take_of_length_le (by rw [HL2.out]; exact Nat.le_refl _)] at this)
      have cx := X.cell (i := 0) rfl
      obtain ⟨N, hN⟩ : ∃ N, N = j := ⟨_, rfl⟩
      rw [← hN] at X Y
      go_wp2
      go_loopw [6] (fun i wr => ∃ j : Nat, j ≤ m ∧ i = .int .i64 j ∧ RowKit.Hid (P.take j = P2.take j) ∧ RowAt wr w.heap.size #[.slice la N lc, .slice pa m pc, .int .i64 am] 47 ∧ RowAt wr (w.heap.size + 1) #[.slice la2 N lc2, .slice pa2 m pc2, .int .i64 am] 47 ∧ Below w.heap.size w wr) (fun i _ => m - (intOf i).toNat)
      case atStart => exact ⟨0, Nat.zero_le _, rfl, Lib.hid rfl, X, Y, hB⟩
      case round =>
        clear X Y hB cx
        obtain ⟨k, hk, rfl, Hsame2, X, Y, hB⟩ := hrel
        by_cases hlt2 : k < m
        · have cx := X.cell (i := 1) rfl
          have cy := Y.cell (i := 1) rfl
          have hl' : k < P.length := by rw [HP1.out]; exact hlt2
          have hm' : k < P2.length := by rw [HP2.out]; exact hlt2
          have hltI : (k : Int) < (m : Int) := by omega
          have hj0 : (0 : Int) ≤ (k : Int) := by omega
          obtain ⟨b, off, rfl, hr⟩ := (hw.up hB).rec_at (cells := rpC) (sz := 2) (fun _ => rfl) hlt2 hl'
          obtain ⟨b2, off2, rfl, hr2⟩ := (hw2.up hB).rec_at (cells := rpC) (sz := 2) (fun _ => rfl) hlt2 hm'
          have hs1 : P.take (k + 1) = P.take k ++ [P[k]] := List.take_succ_eq_append_getElem hl'
          have hs2 : P2.take (k + 1) = P2.take k ++ [P2[k]] := List.take_succ_eq_append_getElem hm'
          have Hs := Lib.hid (fun h : P[k] = P2[k] => show P.take (k + 1) = P2.take (k + 1) by rw [hs1, hs2, h, Hsame2.out])
          have Hno := Lib.hid (fun h : ¬ P[k] = P2[k] => show R = false by
            rw [HR.out]
            refine decide_eq_false fun e => h ?_
            have e1 := e.2.1
            simp only at e1
            subst e1; rfl)
          clear hs1 hs2
          generalize P[k] = x at *
          generalize P2[k] = y at *
          have hq := rp_neql x y
          
          go_wp2
          refine wp_region_pi [(0, false), (1, false), (2, false), (3, false), (4, false), (5, false), (6, false), (7, false), (8, false), (9, false), (10, false)] (by kernel_rfl) (by kernel_rfl) (by kernel_rfl) rfl (fun _ _ d _ _ h => by cases d <;> exact h) (fun Wd hBd => ?_)
          try simp only [Act.put, List.getElem_toArray, List.getElem_cons_zero, List.getElem_cons_succ, List.setIfInBounds_toArray, List.set_cons_zero, List.set_cons_succ]
          have r1 := rangeAt_up hBd hr
          have r2 := rangeAt_up hBd hr2
          have X1 := X.below hBd
          have Y1 := Y.below hBd
          have HB := Lib.hid (below_up hB hBd)
          have qx : ∀ w', Below Wd.heap.size Wd w' → w'.cell? ⟨w.heap.size, 1, none⟩ = some (.slice (some ⟨b, off, none⟩) m pc) := fun w' h => cell_up h (X1.cell (i := 1) rfl)
          have qy : ∀ w', Below Wd.heap.size Wd w' → w'.cell? ⟨w.heap.size + 1, 1, none⟩ = some (.slice (some ⟨b2, off2, none⟩) m pc2) := fun w' h => cell_up h (Y1.cell (i := 1) rfl)
          obtain ⟨d, hd⟩ : ∃ d, d = decide (x = y) := ⟨_, rfl⟩
          rw [← hd] at hq
          have HDd := Lib.hid hd
          clear hd
          refine pi_q (v := ?_) rfl (by rfl) ?_ ?_
          rotate_left
          · intro w' hBw'
            first | (go_simp; done) | (go_simp; with_reducible rfl)
          try simp only [Act.put, List.getElem_toArray, List.getElem_cons_zero, List.getElem_cons_succ, List.setIfInBounds_toArray, List.set_cons_zero, List.set_cons_succ]
          refine pi_q (v := ?_) rfl (by rfl) ?_ ?_
          rotate_left
          · intro w' hBw'
            first | (go_simp; done) | (go_simp; with_reducible rfl)
          try simp only [Act.put, List.getElem_toArray, List.getElem_cons_zero, List.getElem_cons_succ, List.setIfInBounds_toArray, List.set_cons_zero, List.set_cons_succ]
          refine pi_q (v := ?_) rfl (by rfl) ?_ ?_
          rotate_left
          · intro w' hBw'
            first | (go_simp; done) | (go_simp; with_reducible rfl)
          try simp only [Act.put, List.getElem_toArray, List.getElem_cons_zero, List.getElem_cons_succ, List.setIfInBounds_toArray, List.set_cons_zero, List.set_cons_succ]
          refine pi_q (v := ?_) rfl (by rfl) ?_ ?_
          rotate_left
          · intro w' hBw'
            first | (go_simp; done) | (go_simp; with_reducible rfl)
          try simp only [Act.put, List.getElem_toArray, List.getElem_cons_zero, List.getElem_cons_succ, List.setIfInBounds_toArray, List.set_cons_zero, List.set_cons_succ]
          refine pi_load rfl (by rfl) 62 (.tmp 58) rfl b (off + k * 2) rfl (rpC x) _ r1 Try.underlying62 rfl (by kernel_rfl) ?_
          try simp only [Act.put, List.getElem_toArray, List.getElem_cons_zero, List.getElem_cons_succ, List.setIfInBounds_toArray, List.set_cons_zero, List.set_cons_succ]
          refine pi_q (v := ?_) rfl (by rfl) ?_ ?_
          rotate_left
          · intro w' hBw'
            first | (go_simp; done) | (go_simp; with_reducible rfl)
          try simp only [Act.put, List.getElem_toArray, List.getElem_cons_zero, List.getElem_cons_succ, List.setIfInBounds_toArray, List.set_cons_zero, List.set_cons_succ]
          refine pi_q (v := ?_) rfl (by rfl) ?_ ?_
          rotate_left
          · intro w' hBw'
            first | (go_simp; done) | (go_simp; with_reducible rfl)
          try simp only [Act.put, List.getElem_toArray, List.getElem_cons_zero, List.getElem_cons_succ, List.setIfInBounds_toArray, List.set_cons_zero, List.set_cons_succ]
          refine pi_q (v := ?_) rfl (by rfl) ?_ ?_
          rotate_left
          · intro w' hBw'
            first | (go_simp; done) | (go_simp; with_reducible rfl)
          try simp only [Act.put, List.getElem_toArray, List.getElem_cons_zero, List.getElem_cons_succ, List.setIfInBounds_toArray, List.set_cons_zero, List.set_cons_succ]
          refine pi_q (v := ?_) rfl (by rfl) ?_ ?_
          rotate_left
          · intro w' hBw'
            first | (go_simp; done) | (go_simp; with_reducible rfl)
          try simp only [Act.put, List.getElem_toArray, List.getElem_cons_zero, List.getElem_cons_succ, List.setIfInBounds_toArray, List.set_cons_zero, List.set_cons_succ]
          refine pi_load rfl (by rfl) 62 (.tmp 63) rfl b2 (off2 + k * 2) rfl (rpC y) _ r2 Try.underlying62 rfl (by kernel_rfl) ?_
          try simp only [Act.put, List.getElem_toArray, List.getElem_cons_zero, List.getElem_cons_succ, List.setIfInBounds_toArray, List.set_cons_zero, List.set_cons_succ]
          refine pi_q (v := ?_) rfl (by rfl) ?_ ?_
          rotate_left
          · intro w' hBw'
            first | (go_simp; done) | (go_simp; with_reducible rfl)
          try simp only [Act.put, List.getElem_toArray, List.getElem_cons_zero, List.getElem_cons_succ, List.setIfInBounds_toArray, List.set_cons_zero, List.set_cons_succ]
          refine pi_nil ?_
          clear qx qy r1 r2 hr hr2 cx cy X Y hB hBd
          cases d with
          | true =>
            have Hst := Lib.hid (Hs.out (of_decide_eq_true HDd.out.symm))
            clear Hs Hno
            go_wp2
            go_roundw
            case rel => exact ⟨k + 1, by omega, by go_num, Hst, X1, Y1, HB.out⟩
            case measure => simp [intOf]; omega
          | false =>
            have Hf := Lib.hid (Hno.out (of_decide_eq_false HDd.out.symm))
            clear Hs Hno
            go_wp2
            go_ret
            exact ⟨retB Hf.out.symm, HB.out⟩
        · obtain rfl : k = m := by omega
          have HRt : R = true := by
            rw [HR.out]
            refine decide_eq_true ⟨HLE.out, ?_, rfl⟩
            have := Hsame2.out
            rwa [List.take_of_length_le (by rw [HP1.out]; exact Nat.le_refl _), List.take_of_length_le (by rw [HP2.out]; exact Nat.le_refl _)] at this
          have cx := X.cell (i := 1) rfl
          go_wp2
          go_ret
          exact ⟨retB HRt.symm, hB⟩
end Go.Proofs.Ytekpjbablcoahaa
