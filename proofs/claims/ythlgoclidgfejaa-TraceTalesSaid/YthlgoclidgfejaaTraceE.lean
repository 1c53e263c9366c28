/-
  The contract of Check.
-/
import Derived.Test.YthlgoclidgfejaaTraceD
namespace Go.Proofs.Ythlgoclidgfejaa
open Go.RowKit Trc
set_option linter.unusedSimpArgs false
set_option linter.unusedVariables false

theorem checkT_big (l : List Ev) (v : Value) (n : Nat) (w : World) (hv : Sl w 16 v n (l.flatMap evC)) (hn : 4096 < n) :
    Calls Try.prog 7 #[v] w (Ret (.tuple #[.int .i64 (checkAt l), .int .i64 (checkE l)]) w) := by
  have hln := Sl.recs (cells := evC) (sz := 16) (fun _ => rfl) (by decide) hv
  obtain ⟨a, c, rfl⟩ := hv.len
  have hg : (4096 : Int) < (n : Int) := by omega
  rw [show checkAt l = 0 by unfold checkAt; rw [if_pos (by omega)], show checkE l = 3 by unfold checkE; rw [if_pos (by omega)]]
  go_enter Try.func7, Try.ntmps7
  go_wp2
  refine wp_scope_fwd 0 rfl ?_
  go_wp2
  try rw [jump_ret]
  go_ret2
  exact ⟨rfl, Below.refl _ _⟩

set_option maxHeartbeats 1000000 in
set_option maxRecDepth 100000 in
theorem checkT_c (l : List Ev) (v : Value) (n : Nat) (w : World) (hv : Sl w 16 v n (l.flatMap evC)) (hn : n ≤ 4096) :
    Calls Try.prog 7 #[v] w (Ret (.tuple #[.int .i64 (checkAt l), .int .i64 (checkE l)]) w) := by
  have hln := Sl.recs (cells := evC) (sz := 16) (fun _ => rfl) (by decide) hv
  obtain ⟨a, c, rfl⟩ := hv.len
  have hg : ¬ (4096 : Int) < (n : Int) := by omega
  obtain ⟨ca, hca⟩ : ∃ x, checkAt l = x := ⟨_, rfl⟩
  obtain ⟨ce, hce⟩ : ∃ x, checkE l = x := ⟨_, rfl⟩
  have Hsome := Lib.hid (fun (k : Nat) (hk : k < l.length) (h3 : ∀ i, i < k → ∀ hi : i < l.length, soundB (l.take i) l[i] = true) (h4 : soundB (l.take k) l[k] = false) => (show ca = k ∧ ce = 360 by
    have := badAt_some l.length 0 k hk (Nat.zero_le _) (by omega) (fun i _ => h3 i) h4
    rw [← hca, ← hce]; unfold checkAt checkE wrongAt; rw [this, if_neg (by omega), if_neg (by omega)]; exact ⟨rfl, rfl⟩))
  have Hnone := Lib.hid (fun (h3 : ∀ i, ∀ hi : i < l.length, soundB (l.take i) l[i] = true) => (show ca = 0 ∧ ce = 0 by
    have := badAt_none l.length 0 (fun i _ => h3 i)
    rw [← hca, ← hce]; unfold checkAt checkE wrongAt; rw [this, if_neg (by omega), if_neg (by omega)]; exact ⟨rfl, rfl⟩))
  rw [hca, hce]
  have Hln := Lib.hid hln
  clear hca hce hln
  go_enter Try.func7, Try.ntmps7
  go_wp2
  refine wp_scope_fwd 0 rfl ?_
  go_wp2
  go_loopw [2, 9] (fun at_ i wr => ∃ k : Nat, k ≤ n ∧ i = .int .i64 k ∧ (∀ j, j < k → ∀ hj : j < l.length, soundB (l.take j) l[j] = true) ∧ Below w.heap.size w wr) (fun _ i _ => n - (intOf i).toNat)
  case atStart => exact ⟨0, Nat.zero_le _, rfl, by intro j hj; omega, Below.refl _ _⟩
  case round =>
    obtain ⟨k, hk, rfl, hno, hB⟩ := hrel
    have Hno := Lib.hid hno; clear hno
    by_cases hlt : k < n
    · have hlt' : k < l.length := by rw [Hln.out]; exact hlt
      have hvr := hv.up hB
      obtain ⟨a2, hcut, hcs⟩ := cut_hm slT_ev hvr k (by omega)
      rw [rec_take (cells := evC) (fun _ => rfl)] at hcs
      obtain ⟨b, off, rfl, hr⟩ := hvr.rec_at (cells := evC) (sz := 16) (fun _ => rfl) hlt hlt'
      have HS := Lib.hid (Hsome.out k hlt' Hno.out)
      have HN := Lib.hid (fun (h : soundB (l.take k) l[k] = true) j (hj : j < k + 1) (hj' : j < l.length) => (show soundB (l.take j) l[j] = true from by
        rcases Nat.lt_or_ge j k with h' | h'
        · exact Hno.out j h' hj'
        · obtain rfl : j = k := by omega
          exact h))
      clear Hsome Hnone hvr
      generalize l[k] = x at *
      have hkn : (k : Int) < (n : Int) := by omega
      cases hpk : soundB (l.take k) x with
      | true =>
        go_wp2
        refine wp_region_pi [(0, false), (1, false), (2, false), (3, false), (4, false), (5, false), (6, false), (7, false), (8, true), (9, true), (10, false)] (by kernel_rfl) (by kernel_rfl) (by kernel_rfl) rfl (fun _ _ d _ _ h => by cases d <;> exact h) (fun Wd hBd => ?_)
        try simp only [Act.put, List.getElem_toArray, List.getElem_cons_zero, List.getElem_cons_succ, List.setIfInBounds_toArray, List.set_cons_zero, List.set_cons_succ]
        refine pi_q (v := ?_) rfl (by rfl) ?_ ?_
        rotate_left
        · intro w' hBw'
          first | (go_simp; done) | (go_simp; with_reducible rfl)
        try simp only [Act.put, List.getElem_toArray, List.getElem_cons_zero, List.getElem_cons_succ, List.setIfInBounds_toArray, List.set_cons_zero, List.set_cons_succ]
        refine pi_q (v := ?_) rfl (by rfl) ?_ ?_
        rotate_left
        · intro w' hBw'
          first | (go_simp; done) | (go_simp; with_reducible rfl)
        try simp only [Act.put, List.getElem_toArray, List.getElem_cons_zero, List.getElem_cons_succ, List.setIfInBounds_toArray, List.set_cons_zero, List.set_cons_succ]
        refine pi_q (v := ?_) rfl (by rfl) ?_ ?_
        rotate_left
        · intro w' hBw'
          first | (go_simp; done) | (go_simp; with_reducible rfl)
        try simp only [Act.put, List.getElem_toArray, List.getElem_cons_zero, List.getElem_cons_succ, List.setIfInBounds_toArray, List.set_cons_zero, List.set_cons_succ]
        refine pi_load rfl (by rfl) 48 (.tmp 14) rfl b (off + k * 16) rfl (evC x) _ (rangeAt_up hBd hr) Try.underlying48 rfl (by kernel_rfl) ?_
        try simp only [Act.put, List.getElem_toArray, List.getElem_cons_zero, List.getElem_cons_succ, List.setIfInBounds_toArray, List.set_cons_zero, List.set_cons_succ]
        refine pi_q (v := ?_) rfl (by rfl) ?_ ?_
        rotate_left
        · intro w' hBw'
          first | (go_simp; done) | (go_simp; with_reducible rfl)
        try simp only [Act.put, List.getElem_toArray, List.getElem_cons_zero, List.getElem_cons_succ, List.setIfInBounds_toArray, List.set_cons_zero, List.set_cons_succ]
        refine pi_q (v := ?_) rfl (by rfl) ?_ ?_
        rotate_left
        · intro w' hBw'
          first | (go_simp; done) | (go_simp; with_reducible rfl)
        try simp only [Act.put, List.getElem_toArray, List.getElem_cons_zero, List.getElem_cons_succ, List.setIfInBounds_toArray, List.set_cons_zero, List.set_cons_succ]
        refine pi_q (v := ?_) rfl (by rfl) ?_ ?_
        rotate_left
        · intro w' hBw'
          first | (go_simp; done) | (go_simp; with_reducible rfl)
        try simp only [Act.put, List.getElem_toArray, List.getElem_cons_zero, List.getElem_cons_succ, List.setIfInBounds_toArray, List.set_cons_zero, List.set_cons_succ]
        refine pi_q (v := ?_) rfl (by rfl) ?_ ?_
        rotate_left
        · intro w' hBw'
          first | (go_simp; done) | (go_simp; with_reducible rfl)
        try simp only [Act.put, List.getElem_toArray, List.getElem_cons_zero, List.getElem_cons_succ, List.setIfInBounds_toArray, List.set_cons_zero, List.set_cons_succ]
        refine pi_c rfl (by rfl) (fun K hK => ?_)
        go_simp
        refine hK.out _ _ (below_alloc _ _) ?_
        have hsl3 := sl3f Wd Wd.heap.size rfl 64 19 20 21
        clear hK K
        refine pi_c rfl (by rfl) (fun K hK => ?_)
        go_simp
        refine (sound_c x (l.take k) _ k _ _ ((hcs.up hBd).up (below_alloc _ _)) hsl3).mono ?_
        rw [hpk]
        rintro e w4 ⟨rfl, hb4⟩
        have hB4 := below_up hBd (below_new hb4)
        go_wp2_with fail
        refine hK.out _ _ hb4 ?_
        clear hK K
        try simp only [Act.put, List.getElem_toArray, List.getElem_cons_zero, List.getElem_cons_succ, List.setIfInBounds_toArray, List.set_cons_zero, List.set_cons_succ]
        refine pi_q (v := ?_) rfl (by rfl) ?_ ?_
        rotate_left
        · intro w' hBw'
          first | (go_simp; done) | (go_simp; with_reducible rfl)
        try simp only [Act.put, List.getElem_toArray, List.getElem_cons_zero, List.getElem_cons_succ, List.setIfInBounds_toArray, List.set_cons_zero, List.set_cons_succ]
        refine pi_nil ?_
        go_wp2
        go_roundw
        case rel => exact ⟨k + 1, by omega, by go_num, HN.out hpk, below_up hB hB4⟩
        case measure => simp [intOf]; omega
      | false =>
        obtain ⟨rfl, rfl⟩ := HS.out hpk
        go_wp2
        refine wp_region_pi [(0, false), (1, false), (2, false), (3, false), (4, false), (5, false), (6, false), (7, false), (8, true), (9, true), (10, false)] (by kernel_rfl) (by kernel_rfl) (by kernel_rfl) rfl (fun _ _ d _ _ h => by cases d <;> exact h) (fun Wd hBd => ?_)
        try simp only [Act.put, List.getElem_toArray, List.getElem_cons_zero, List.getElem_cons_succ, List.setIfInBounds_toArray, List.set_cons_zero, List.set_cons_succ]
        refine pi_q (v := ?_) rfl (by rfl) ?_ ?_
        rotate_left
        · intro w' hBw'
          first | (go_simp; done) | (go_simp; with_reducible rfl)
        try simp only [Act.put, List.getElem_toArray, List.getElem_cons_zero, List.getElem_cons_succ, List.setIfInBounds_toArray, List.set_cons_zero, List.set_cons_succ]
        refine pi_q (v := ?_) rfl (by rfl) ?_ ?_
        rotate_left
        · intro w' hBw'
          first | (go_simp; done) | (go_simp; with_reducible rfl)
        try simp only [Act.put, List.getElem_toArray, List.getElem_cons_zero, List.getElem_cons_succ, List.setIfInBounds_toArray, List.set_cons_zero, List.set_cons_succ]
        refine pi_q (v := ?_) rfl (by rfl) ?_ ?_
        rotate_left
        · intro w' hBw'
          first | (go_simp; done) | (go_simp; with_reducible rfl)
        try simp only [Act.put, List.getElem_toArray, List.getElem_cons_zero, List.getElem_cons_succ, List.setIfInBounds_toArray, List.set_cons_zero, List.set_cons_succ]
        refine pi_load rfl (by rfl) 48 (.tmp 14) rfl b (off + k * 16) rfl (evC x) _ (rangeAt_up hBd hr) Try.underlying48 rfl (by kernel_rfl) ?_
        try simp only [Act.put, List.getElem_toArray, List.getElem_cons_zero, List.getElem_cons_succ, List.setIfInBounds_toArray, List.set_cons_zero, List.set_cons_succ]
        refine pi_q (v := ?_) rfl (by rfl) ?_ ?_
        rotate_left
        · intro w' hBw'
          first | (go_simp; done) | (go_simp; with_reducible rfl)
        try simp only [Act.put, List.getElem_toArray, List.getElem_cons_zero, List.getElem_cons_succ, List.setIfInBounds_toArray, List.set_cons_zero, List.set_cons_succ]
        refine pi_q (v := ?_) rfl (by rfl) ?_ ?_
        rotate_left
        · intro w' hBw'
          first | (go_simp; done) | (go_simp; with_reducible rfl)
        try simp only [Act.put, List.getElem_toArray, List.getElem_cons_zero, List.getElem_cons_succ, List.setIfInBounds_toArray, List.set_cons_zero, List.set_cons_succ]
        refine pi_q (v := ?_) rfl (by rfl) ?_ ?_
        rotate_left
        · intro w' hBw'
          first | (go_simp; done) | (go_simp; with_reducible rfl)
        try simp only [Act.put, List.getElem_toArray, List.getElem_cons_zero, List.getElem_cons_succ, List.setIfInBounds_toArray, List.set_cons_zero, List.set_cons_succ]
        refine pi_q (v := ?_) rfl (by rfl) ?_ ?_
        rotate_left
        · intro w' hBw'
          first | (go_simp; done) | (go_simp; with_reducible rfl)
        try simp only [Act.put, List.getElem_toArray, List.getElem_cons_zero, List.getElem_cons_succ, List.setIfInBounds_toArray, List.set_cons_zero, List.set_cons_succ]
        refine pi_c rfl (by rfl) (fun K hK => ?_)
        go_simp
        refine hK.out _ _ (below_alloc _ _) ?_
        have hsl3 := sl3f Wd Wd.heap.size rfl 64 19 20 21
        clear hK K
        refine pi_c rfl (by rfl) (fun K hK => ?_)
        go_simp
        refine (sound_c x (l.take k) _ k _ _ ((hcs.up hBd).up (below_alloc _ _)) hsl3).mono ?_
        rw [hpk]
        rintro e w4 ⟨rfl, hb4⟩
        have hB4 := below_up hBd (below_new hb4)
        go_wp2_with fail
        refine hK.out _ _ hb4 ?_
        clear hK K
        try simp only [Act.put, List.getElem_toArray, List.getElem_cons_zero, List.getElem_cons_succ, List.setIfInBounds_toArray, List.set_cons_zero, List.set_cons_succ]
        refine pi_q (v := ?_) rfl (by rfl) ?_ ?_
        rotate_left
        · intro w' hBw'
          first | (go_simp; done) | (go_simp; with_reducible rfl)
        try simp only [Act.put, List.getElem_toArray, List.getElem_cons_zero, List.getElem_cons_succ, List.setIfInBounds_toArray, List.set_cons_zero, List.set_cons_succ]
        refine pi_nil ?_
        go_wp2
        refine wp_goto ?_
        refine And.intro rfl ?_
        show Code.wp _ _ _ _ _
        go_wp2
        try rw [jump_ret]
        go_ret2
        exact ⟨rfl, below_up hB hB4⟩
    · obtain rfl : k = n := by omega
      obtain ⟨rfl, rfl⟩ := Hnone.out (fun i hi => Hno.out i (by have := Hln.out; omega) hi)
      go_wp2
      try rw [jump_ret]
      go_ret2
      exact ⟨rfl, hB⟩
end Go.Proofs.Ythlgoclidgfejaa
