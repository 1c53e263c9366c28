/-
  The contract of the reference's Check.
-/
import Derived.Test.YthlgoclidgfejaaTraceE
namespace Go.Proofs.Ythlgoclidgfejaa
open Go.RowKit Trc
set_option linter.unusedSimpArgs false
set_option linter.unusedVariables false

theorem checkR_big (l : List Ev) (v : Value) (n : Nat) (w : World) (hv : Sl w 16 v n (l.flatMap evC)) (hn : 4096 < n) :
    Calls Try.prog 8 #[v] w (Ret (.tuple #[.int .i64 (checkAt l), .int .i64 (checkE l)]) w) := by
  have hln := Sl.recs (cells := evC) (sz := 16) (fun _ => rfl) (by decide) hv
  obtain ⟨a, c, rfl⟩ := hv.len
  have hg : (4096 : Int) < (n : Int) := by omega
  rw [show checkAt l = 0 by unfold checkAt; rw [if_pos (by omega)], show checkE l = 3 by unfold checkE; rw [if_pos (by omega)]]
  go_enter Try.func8, Try.ntmps8
  go_wp2
  go_ret2
  exact ⟨rfl, Below.refl _ _⟩

namespace Trc
def pairB (x y : Ev) : Bool := saysB x && (saysB y && (decide (x.name = y.name) && decide (0 < x.name.node)))
theorem once_true {l : List Ev} {x : Ev} (h0 : 0 ≤ x.name.node) (h : ∀ y ∈ l, pairB x y = false) : onceB l x = true := by
  unfold onceB
  cases hs : saysB x with
  | false => rfl
  | true =>
    by_cases hz : x.name.node = 0
    · simp [hz]
    · have : l.any (sameB x) = false := by
        rw [List.any_eq_false]
        intro y hy
        have := h y hy
        unfold pairB at this
        unfold sameB
        rw [hs, Bool.true_and] at this
        cases hy : saysB y with
        | false => simp
        | true =>
          rw [hy, Bool.true_and, decide_eq_true (show 0 < x.name.node by omega), Bool.and_true, decide_eq_false_iff_not] at this
          simp
          exact fun e => this e.symm
      simp [this]
theorem once_false {l : List Ev} {x y : Ev} (hy : y ∈ l) (h : pairB x y = true) : onceB l x = false := by
  unfold pairB at h
  simp only [Bool.and_eq_true, decide_eq_true_eq] at h
  obtain ⟨h1, h2, h3, h4⟩ := h
  have h5 : l.any (sameB x) = true := List.any_eq_true.2 ⟨y, hy, by unfold sameB; rw [h2, Bool.true_and]; exact decide_eq_true h3.symm⟩
  unfold onceB
  rw [h1, h5]
  simp
  omega
theorem sound_true {l : List Ev} {k : Nat} {x : Ev} (h1 : aloneB x = true) (h2 : risesB (l.take k) x = true) (h3 : onceB (l.take k) x = true) : soundB (l.take k) x = true := by
  unfold soundB; rw [h1, h2, h3]; rfl
theorem nm_ne {a b : Nm} (h : a ≠ b) : a.node ≠ b.node ∨ (a.node = b.node ∧ a.service ≠ b.service) ∨ (a.node = b.node ∧ a.service = b.service ∧ a.time ≠ b.time) ∨ (a.node = b.node ∧ a.service = b.service ∧ a.time = b.time ∧ a.seq ≠ b.seq) := by
  by_cases h1 : a.node = b.node
  · by_cases h2 : a.service = b.service
    · by_cases h3 : a.time = b.time
      · exact .inr (.inr (.inr ⟨h1, h2, h3, fun h4 => h (Nm.ext h1 h2 h3 h4)⟩))
      · exact .inr (.inr (.inl ⟨h1, h2, h3⟩))
    · exact .inr (.inl ⟨h1, h2⟩)
  · exact .inl h1
theorem sound_false {l : List Ev} {k : Nat} {x : Ev} (h : aloneB x = false ∨ risesB (l.take k) x = false ∨ onceB (l.take k) x = false) : soundB (l.take k) x = false := by
  unfold soundB
  rcases h with h | h | h <;> simp [h]
end Trc
abbrev nmC (x : Nm) : List Value := [.int .u32 x.node, .int .u32 x.service, .int .u64 x.time, .int .u32 x.seq]
theorem evC_name (e : Ev) : ∀ j, j < (nmC e.name).length → (nmC e.name)[j]? = (evC e)[5 + j]? := fun j hj => by
  match j with
  | 0 => rfl
  | 1 => rfl
  | 2 => rfl
  | 3 => rfl

set_option maxHeartbeats 16000000 in
set_option maxRecDepth 100000 in
theorem checkR_c (l : List Ev) (v : Value) (n : Nat) (w : World) (hv : Sl w 16 v n (l.flatMap evC)) (hn : n ≤ 4096) (hw : ∀ e ∈ l, 0 ≤ e.name.node) :
    Calls Try.prog 8 #[v] w (Ret (.tuple #[.int .i64 (checkAt l), .int .i64 (checkE l)]) w) := by
  have hln := Sl.recs (cells := evC) (sz := 16) (fun _ => rfl) (by decide) hv
  obtain ⟨a, c, rfl⟩ := hv.len
  have hg : ¬ (4096 : Int) < (n : Int) := by omega
  obtain ⟨ca, hca⟩ : ∃ x, checkAt l = x := ⟨_, rfl⟩
  obtain ⟨ce, hce⟩ : ∃ x, checkE l = x := ⟨_, rfl⟩
  have Hsome := Lib.hid (fun (k : Nat) (hk : k < l.length) (h3 : ∀ i, i < k → ∀ hi : i < l.length, soundB (l.take i) l[i] = true) (h4 : soundB (l.take k) l[k] = false) => (show ca = k ∧ ce = 360 by
    have := badAt_some l.length 0 k hk (Nat.zero_le _) (by omega) (fun i _ => h3 i) h4
    rw [← hca, ← hce]; unfold checkAt checkE wrongAt; rw [this, if_neg (by omega), if_neg (by omega)]; exact ⟨rfl, rfl⟩))
  have Hnone := Lib.hid (fun (h3 : ∀ i, ∀ hi : i < l.length, soundB (l.take i) l[i] = true) => (show ca = 0 ∧ ce = 0 by
    have := badAt_none l.length 0 (fun i _ => h3 i)
    rw [← hca, ← hce]; unfold checkAt checkE wrongAt; rw [this, if_neg (by omega), if_neg (by omega)]; exact ⟨rfl, rfl⟩))
  rw [hca, hce]
  have Hln := Lib.hid hln
  have Hw := Lib.hid hw
  clear hca hce hln hw
  go_enter Try.func8, Try.ntmps8
  go_wp2
  go_loopg [4] n (fun gh i wr => ∃ k : Nat, k ≤ n ∧ gh = n - k ∧ i = .int .i64 k ∧ (∀ j, j < k → ∀ hj : j < l.length, soundB (l.take j) l[j] = true) ∧ Below w.heap.size w wr)
  case atStart => exact ⟨0, Nat.zero_le _, rfl, rfl, by intro j hj; omega, Below.refl _ _⟩
  case round =>
    obtain ⟨k, hk, rfl, rfl, hno, hB⟩ := hrel
    have Hno := Lib.hid hno; clear hno
    by_cases hlt : k < n
    · have hlt' : k < l.length := by rw [Hln.out]; exact hlt
      have hvr := hv.up hB
      obtain ⟨b, off, rfl, hr⟩ := hvr.rec_at (cells := evC) (sz := 16) (fun _ => rfl) hlt hlt'
      have HS := Lib.hid (Hsome.out k hlt' Hno.out)
      have HN := Lib.hid (fun (h : soundB (l.take k) l[k] = true) j (hj : j < k + 1) (hj' : j < l.length) => (show soundB (l.take j) l[j] = true from by
        rcases Nat.lt_or_ge j k with h' | h'
        · exact Hno.out j h' hj'
        · obtain rfl : j = k := by omega
          exact h))
      clear Hsome Hnone
      have hx0 := Hw.out l[k] (List.getElem_mem hlt')
      generalize l[k] = x at *
      have hkn : (k : Int) < (n : Int) := by omega
      cases hal : aloneB x with
      | false =>
        obtain ⟨rfl, rfl⟩ := HS.out (sound_false (.inl hal))
        go_wp2
        refine wp_region_pi [(0, false), (1, false), (2, false), (3, false), (4, true), (5, false), (6, false), (7, false), (8, false), (9, false), (10, false), (11, false), (12, false), (13, false), (14, false), (15, false), (16, false), (17, false), (18, false), (19, false), (20, false), (21, false), (22, false), (23, false)] (by kernel_rfl) (by kernel_rfl) (by kernel_rfl) rfl (fun _ _ d _ _ h => by cases d <;> exact h) (fun Wd hBd => ?_)
        try simp only [Act.put, List.getElem_toArray, List.getElem_cons_zero, List.getElem_cons_succ, List.setIfInBounds_toArray, List.set_cons_zero, List.set_cons_succ]
        refine pi_q (v := ?_) rfl (by rfl) ?_ ?_
        rotate_left
        · intro w' hBw'
          first | (go_simp; done) | (go_simp; with_reducible rfl)
        try simp only [Act.put, List.getElem_toArray, List.getElem_cons_zero, List.getElem_cons_succ, List.setIfInBounds_toArray, List.set_cons_zero, List.set_cons_succ]
        refine pi_q (v := ?_) rfl (by rfl) ?_ ?_
        rotate_left
        · intro w' hBw'
          first | (go_simp; done) | (go_simp; with_reducible rfl)
        try simp only [Act.put, List.getElem_toArray, List.getElem_cons_zero, List.getElem_cons_succ, List.setIfInBounds_toArray, List.set_cons_zero, List.set_cons_succ]
        refine pi_q (v := ?_) rfl (by rfl) ?_ ?_
        rotate_left
        · intro w' hBw'
          first | (go_simp; done) | (go_simp; with_reducible rfl)
        try simp only [Act.put, List.getElem_toArray, List.getElem_cons_zero, List.getElem_cons_succ, List.setIfInBounds_toArray, List.set_cons_zero, List.set_cons_succ]
        refine pi_load rfl (by rfl) 48 (.tmp 17) rfl b (off + k * 16) rfl (evC x) _ (rangeAt_up hBd hr) Try.underlying48 rfl (by kernel_rfl) ?_
        try simp only [Act.put, List.getElem_toArray, List.getElem_cons_zero, List.getElem_cons_succ, List.setIfInBounds_toArray, List.set_cons_zero, List.set_cons_succ]
        refine pi_c rfl (by rfl) (fun K hK => ?_)
        go_simp
        refine (aloneR_c x _).mono ?_
        rw [hal]
        rintro e w4 ⟨rfl, hb4⟩
        have hB4 := below_up hBd hb4
        go_wp2_with fail
        refine hK.out _ _ hb4 ?_
        clear hK K
        try simp only [Act.put, List.getElem_toArray, List.getElem_cons_zero, List.getElem_cons_succ, List.setIfInBounds_toArray, List.set_cons_zero, List.set_cons_succ]
        refine pi_q (v := ?_) rfl (by rfl) ?_ ?_
        rotate_left
        · intro w' hBw'
          first | (go_simp; done) | (go_simp; with_reducible rfl)
        try simp only [Act.put, List.getElem_toArray, List.getElem_cons_zero, List.getElem_cons_succ, List.setIfInBounds_toArray, List.set_cons_zero, List.set_cons_succ]
        refine pi_q (v := ?_) rfl (by rfl) ?_ ?_
        rotate_left
        · intro w' hBw'
          first | (go_simp; done) | (go_simp; with_reducible rfl)
        try simp only [Act.put, List.getElem_toArray, List.getElem_cons_zero, List.getElem_cons_succ, List.setIfInBounds_toArray, List.set_cons_zero, List.set_cons_succ]
        refine pi_no rfl (by rfl) ?_
        try simp only [Act.put, List.getElem_toArray, List.getElem_cons_zero, List.getElem_cons_succ, List.setIfInBounds_toArray, List.set_cons_zero, List.set_cons_succ]
        refine pi_no rfl (by rfl) ?_
        try simp only [Act.put, List.getElem_toArray, List.getElem_cons_zero, List.getElem_cons_succ, List.setIfInBounds_toArray, List.set_cons_zero, List.set_cons_succ]
        refine pi_no rfl (by rfl) ?_
        try simp only [Act.put, List.getElem_toArray, List.getElem_cons_zero, List.getElem_cons_succ, List.setIfInBounds_toArray, List.set_cons_zero, List.set_cons_succ]
        refine pi_no rfl (by rfl) ?_
        try simp only [Act.put, List.getElem_toArray, List.getElem_cons_zero, List.getElem_cons_succ, List.setIfInBounds_toArray, List.set_cons_zero, List.set_cons_succ]
        refine pi_no rfl (by rfl) ?_
        try simp only [Act.put, List.getElem_toArray, List.getElem_cons_zero, List.getElem_cons_succ, List.setIfInBounds_toArray, List.set_cons_zero, List.set_cons_succ]
        refine pi_no rfl (by rfl) ?_
        try simp only [Act.put, List.getElem_toArray, List.getElem_cons_zero, List.getElem_cons_succ, List.setIfInBounds_toArray, List.set_cons_zero, List.set_cons_succ]
        refine pi_no rfl (by rfl) ?_
        try simp only [Act.put, List.getElem_toArray, List.getElem_cons_zero, List.getElem_cons_succ, List.setIfInBounds_toArray, List.set_cons_zero, List.set_cons_succ]
        refine pi_no rfl (by rfl) ?_
        try simp only [Act.put, List.getElem_toArray, List.getElem_cons_zero, List.getElem_cons_succ, List.setIfInBounds_toArray, List.set_cons_zero, List.set_cons_succ]
        refine pi_no rfl (by rfl) ?_
        try simp only [Act.put, List.getElem_toArray, List.getElem_cons_zero, List.getElem_cons_succ, List.setIfInBounds_toArray, List.set_cons_zero, List.set_cons_succ]
        refine pi_no rfl (by rfl) ?_
        try simp only [Act.put, List.getElem_toArray, List.getElem_cons_zero, List.getElem_cons_succ, List.setIfInBounds_toArray, List.set_cons_zero, List.set_cons_succ]
        refine pi_no rfl (by rfl) ?_
        try simp only [Act.put, List.getElem_toArray, List.getElem_cons_zero, List.getElem_cons_succ, List.setIfInBounds_toArray, List.set_cons_zero, List.set_cons_succ]
        refine pi_no rfl (by rfl) ?_
        try simp only [Act.put, List.getElem_toArray, List.getElem_cons_zero, List.getElem_cons_succ, List.setIfInBounds_toArray, List.set_cons_zero, List.set_cons_succ]
        refine pi_no rfl (by rfl) ?_
        try simp only [Act.put, List.getElem_toArray, List.getElem_cons_zero, List.getElem_cons_succ, List.setIfInBounds_toArray, List.set_cons_zero, List.set_cons_succ]
        refine pi_no rfl (by rfl) ?_
        try simp only [Act.put, List.getElem_toArray, List.getElem_cons_zero, List.getElem_cons_succ, List.setIfInBounds_toArray, List.set_cons_zero, List.set_cons_succ]
        refine pi_no rfl (by rfl) ?_
        try simp only [Act.put, List.getElem_toArray, List.getElem_cons_zero, List.getElem_cons_succ, List.setIfInBounds_toArray, List.set_cons_zero, List.set_cons_succ]
        refine pi_no rfl (by rfl) ?_
        try simp only [Act.put, List.getElem_toArray, List.getElem_cons_zero, List.getElem_cons_succ, List.setIfInBounds_toArray, List.set_cons_zero, List.set_cons_succ]
        refine pi_q (v := ?_) rfl (by rfl) ?_ ?_
        rotate_left
        · intro w' hBw'
          first | (go_simp; done) | (go_simp; with_reducible rfl)
        try simp only [Act.put, List.getElem_toArray, List.getElem_cons_zero, List.getElem_cons_succ, List.setIfInBounds_toArray, List.set_cons_zero, List.set_cons_succ]
        refine pi_nil ?_
        go_wp2
        go_ret2
        exact ⟨rfl, below_up hB hB4⟩
      | true =>
        cases hk0 : k with
        | zero =>
          subst hk0
          have hR : risesB (l.take 0) x = true := rfl
          go_wp2
          refine wp_region_pi [(0, false), (1, false), (2, false), (3, false), (4, true), (5, false), (6, false), (7, false), (8, false), (9, false), (10, false), (11, false), (12, false), (13, false), (14, false), (15, false), (16, false), (17, false), (18, false), (19, false), (20, false), (21, false), (22, false), (23, false)] (by kernel_rfl) (by kernel_rfl) (by kernel_rfl) rfl (fun _ _ d _ _ h => by cases d <;> exact h) (fun Wd hBd => ?_)
          try simp only [Act.put, List.getElem_toArray, List.getElem_cons_zero, List.getElem_cons_succ, List.setIfInBounds_toArray, List.set_cons_zero, List.set_cons_succ]
          refine pi_q (v := ?_) rfl (by rfl) ?_ ?_
          rotate_left
          · intro w' hBw'
            first | (go_simp; done) | (go_simp; with_reducible rfl)
          try simp only [Act.put, List.getElem_toArray, List.getElem_cons_zero, List.getElem_cons_succ, List.setIfInBounds_toArray, List.set_cons_zero, List.set_cons_succ]
          refine pi_q (v := ?_) rfl (by rfl) ?_ ?_
          rotate_left
          · intro w' hBw'
            first | (go_simp; done) | (go_simp; with_reducible rfl)
          try simp only [Act.put, List.getElem_toArray, List.getElem_cons_zero, List.getElem_cons_succ, List.setIfInBounds_toArray, List.set_cons_zero, List.set_cons_succ]
          refine pi_q (v := ?_) rfl (by rfl) ?_ ?_
          rotate_left
          · intro w' hBw'
            first | (go_simp; done) | (go_simp; with_reducible rfl)
          try simp only [Act.put, List.getElem_toArray, List.getElem_cons_zero, List.getElem_cons_succ, List.setIfInBounds_toArray, List.set_cons_zero, List.set_cons_succ]
          refine pi_load rfl (by rfl) 48 (.tmp 17) rfl b (off + 0 * 16) rfl (evC x) _ (rangeAt_up hBd hr) Try.underlying48 rfl (by kernel_rfl) ?_
          try simp only [Act.put, List.getElem_toArray, List.getElem_cons_zero, List.getElem_cons_succ, List.setIfInBounds_toArray, List.set_cons_zero, List.set_cons_succ]
          refine pi_c rfl (by rfl) (fun K hK => ?_)
          go_simp
          refine (aloneR_c x _).mono ?_
          rw [hal]
          rintro e w4 ⟨rfl, hb4⟩
          have hB4 := below_up hBd hb4
          go_wp2_with fail
          refine hK.out _ _ hb4 ?_
          clear hK K
          try simp only [Act.put, List.getElem_toArray, List.getElem_cons_zero, List.getElem_cons_succ, List.setIfInBounds_toArray, List.set_cons_zero, List.set_cons_succ]
          refine pi_q (v := ?_) rfl (by rfl) ?_ ?_
          rotate_left
          · intro w' hBw'
            first | (go_simp; done) | (go_simp; with_reducible rfl)
          try simp only [Act.put, List.getElem_toArray, List.getElem_cons_zero, List.getElem_cons_succ, List.setIfInBounds_toArray, List.set_cons_zero, List.set_cons_succ]
          refine pi_q (v := ?_) rfl (by rfl) ?_ ?_
          rotate_left
          · intro w' hBw'
            first | (go_simp; done) | (go_simp; with_reducible rfl)
          try simp only [Act.put, List.getElem_toArray, List.getElem_cons_zero, List.getElem_cons_succ, List.setIfInBounds_toArray, List.set_cons_zero, List.set_cons_succ]
          refine pi_q (v := ?_) rfl (by rfl) ?_ ?_
          rotate_left
          · intro w' hBw'
            first | (go_simp; done) | (go_simp; with_reducible rfl)
          try simp only [Act.put, List.getElem_toArray, List.getElem_cons_zero, List.getElem_cons_succ, List.setIfInBounds_toArray, List.set_cons_zero, List.set_cons_succ]
          refine pi_q (v := ?_) rfl (by rfl) ?_ ?_
          rotate_left
          · intro w' hBw'
            first | (go_simp; done) | (go_simp; with_reducible rfl)
          try simp only [Act.put, List.getElem_toArray, List.getElem_cons_zero, List.getElem_cons_succ, List.setIfInBounds_toArray, List.set_cons_zero, List.set_cons_succ]
          refine pi_q (v := ?_) rfl (by rfl) ?_ ?_
          rotate_left
          · intro w' hBw'
            first | (go_simp; done) | (go_simp; with_reducible rfl)
          try simp only [Act.put, List.getElem_toArray, List.getElem_cons_zero, List.getElem_cons_succ, List.setIfInBounds_toArray, List.set_cons_zero, List.set_cons_succ]
          refine pi_no rfl (by rfl) ?_
          try simp only [Act.put, List.getElem_toArray, List.getElem_cons_zero, List.getElem_cons_succ, List.setIfInBounds_toArray, List.set_cons_zero, List.set_cons_succ]
          refine pi_no rfl (by rfl) ?_
          try simp only [Act.put, List.getElem_toArray, List.getElem_cons_zero, List.getElem_cons_succ, List.setIfInBounds_toArray, List.set_cons_zero, List.set_cons_succ]
          refine pi_no rfl (by rfl) ?_
          try simp only [Act.put, List.getElem_toArray, List.getElem_cons_zero, List.getElem_cons_succ, List.setIfInBounds_toArray, List.set_cons_zero, List.set_cons_succ]
          refine pi_no rfl (by rfl) ?_
          try simp only [Act.put, List.getElem_toArray, List.getElem_cons_zero, List.getElem_cons_succ, List.setIfInBounds_toArray, List.set_cons_zero, List.set_cons_succ]
          refine pi_no rfl (by rfl) ?_
          try simp only [Act.put, List.getElem_toArray, List.getElem_cons_zero, List.getElem_cons_succ, List.setIfInBounds_toArray, List.set_cons_zero, List.set_cons_succ]
          refine pi_no rfl (by rfl) ?_
          try simp only [Act.put, List.getElem_toArray, List.getElem_cons_zero, List.getElem_cons_succ, List.setIfInBounds_toArray, List.set_cons_zero, List.set_cons_succ]
          refine pi_no rfl (by rfl) ?_
          try simp only [Act.put, List.getElem_toArray, List.getElem_cons_zero, List.getElem_cons_succ, List.setIfInBounds_toArray, List.set_cons_zero, List.set_cons_succ]
          refine pi_no rfl (by rfl) ?_
          try simp only [Act.put, List.getElem_toArray, List.getElem_cons_zero, List.getElem_cons_succ, List.setIfInBounds_toArray, List.set_cons_zero, List.set_cons_succ]
          refine pi_no rfl (by rfl) ?_
          try simp only [Act.put, List.getElem_toArray, List.getElem_cons_zero, List.getElem_cons_succ, List.setIfInBounds_toArray, List.set_cons_zero, List.set_cons_succ]
          refine pi_no rfl (by rfl) ?_
          try simp only [Act.put, List.getElem_toArray, List.getElem_cons_zero, List.getElem_cons_succ, List.setIfInBounds_toArray, List.set_cons_zero, List.set_cons_succ]
          refine pi_no rfl (by rfl) ?_
          try simp only [Act.put, List.getElem_toArray, List.getElem_cons_zero, List.getElem_cons_succ, List.setIfInBounds_toArray, List.set_cons_zero, List.set_cons_succ]
          refine pi_no rfl (by rfl) ?_
          try simp only [Act.put, List.getElem_toArray, List.getElem_cons_zero, List.getElem_cons_succ, List.setIfInBounds_toArray, List.set_cons_zero, List.set_cons_succ]
          refine pi_q (v := ?_) rfl (by rfl) ?_ ?_
          rotate_left
          · intro w' hBw'
            first | (go_simp; done) | (go_simp; with_reducible rfl)
          try simp only [Act.put, List.getElem_toArray, List.getElem_cons_zero, List.getElem_cons_succ, List.setIfInBounds_toArray, List.set_cons_zero, List.set_cons_succ]
          refine pi_q (v := ?_) rfl (by rfl) ?_ ?_
          rotate_left
          · intro w' hBw'
            first | (go_simp; done) | (go_simp; with_reducible rfl)
          try simp only [Act.put, List.getElem_toArray, List.getElem_cons_zero, List.getElem_cons_succ, List.setIfInBounds_toArray, List.set_cons_zero, List.set_cons_succ]
          refine pi_nil ?_
          have hB4' := below_up hB hB4
          have hr4 := rangeAt_up hB4 hr
          have hv4 := hvr.up hB4
          clear hr hvr hB hBd hb4 hB4
          go_wp2
          go_loopg [5] 0 (fun gh i wi => ∃ q : Nat, q ≤ 0 ∧ gh = 0 - q ∧ i = .int .i64 q ∧ (∀ j, j < q → ∀ hj : j < l.length, pairB x l[j] = false) ∧ Below w4.heap.size w4 wi)
          case atStart => exact ⟨0, Nat.zero_le _, rfl, rfl, by intro j hj; omega, Below.refl _ _⟩
          case round =>
            obtain ⟨q, hq, rfl, rfl, hnp, hBi⟩ := hrel
            have Hnp := Lib.hid hnp; clear hnp
            have hBz := below_up hB4' hBi
            by_cases hqk : q < 0
            · omega
            · have hqe : q = 0 := by omega
              subst hqe
              have hon : onceB (l.take 0) x = true := once_true hx0 (fun y hy => by
                obtain ⟨i, hi, rfl⟩ := List.mem_take_iff_getElem.1 hy
                exact Hnp.out i (by omega) (by omega))
              have hso := HN.out (sound_true hal hR hon)
              have Hso := Lib.hid hso
              clear hso hon
              go_wp2
              go_roundg (n - (0 + 1))
              case rel => exact ⟨0 + 1, by omega, rfl, by go_num, Hso.out, hBz⟩
              case measure => omega
        | succ m =>
          subst hk0
          have hm' : m < l.length := by omega
          obtain ⟨b', off', e', hr2⟩ := hvr.rec_at (cells := evC) (sz := 16) (fun _ => rfl) (k := m) (by omega) hm'
          simp only [Option.some.injEq, Addr.mk.injEq, and_true] at e'
          obtain ⟨rfl, rfl⟩ := e'
          have hR : risesB (l.take (m + 1)) x = decide ((l[m]).at_ ≤ x.at_) := by
            unfold risesB
            rw [List.getLast?_take]
            simp [List.getElem?_eq_getElem hm']
          generalize l[m] = y at *
          have hm0 : (0 : Int) ≤ (m : Int) + 1 := by omega
          have hm1 : ¬ (m : Int) + 1 ≤ 0 := by omega
          have hwm : IntKind.i64.wrap (m : Int) = m := by rw [IntKind.wrap_i64]; omega
          have hmn : (m : Int) < (n : Int) := by omega
          by_cases hat : y.at_ ≤ x.at_
          · have hRt : risesB (l.take (m + 1)) x = true := by rw [hR]; exact decide_eq_true hat
            clear hR
            have hR := hRt
            clear hRt
            have hat' : ¬ x.at_ < y.at_ := by omega
            go_wp2
            refine wp_region_pi [(0, false), (1, false), (2, false), (3, false), (4, true), (5, false), (6, false), (7, false), (8, false), (9, false), (10, false), (11, false), (12, false), (13, false), (14, false), (15, false), (16, false), (17, false), (18, false), (19, false), (20, false), (21, false), (22, false), (23, false)] (by kernel_rfl) (by kernel_rfl) (by kernel_rfl) rfl (fun _ _ d _ _ h => by cases d <;> exact h) (fun Wd hBd => ?_)
            try simp only [Act.put, List.getElem_toArray, List.getElem_cons_zero, List.getElem_cons_succ, List.setIfInBounds_toArray, List.set_cons_zero, List.set_cons_succ]
            refine pi_q (v := ?_) rfl (by rfl) ?_ ?_
            rotate_left
            · intro w' hBw'
              first | (go_simp; done) | (go_simp; with_reducible rfl)
            try simp only [Act.put, List.getElem_toArray, List.getElem_cons_zero, List.getElem_cons_succ, List.setIfInBounds_toArray, List.set_cons_zero, List.set_cons_succ]
            refine pi_q (v := ?_) rfl (by rfl) ?_ ?_
            rotate_left
            · intro w' hBw'
              first | (go_simp; done) | (go_simp; with_reducible rfl)
            try simp only [Act.put, List.getElem_toArray, List.getElem_cons_zero, List.getElem_cons_succ, List.setIfInBounds_toArray, List.set_cons_zero, List.set_cons_succ]
            refine pi_q (v := ?_) rfl (by rfl) ?_ ?_
            rotate_left
            · intro w' hBw'
              first | (go_simp; done) | (go_simp; with_reducible rfl)
            try simp only [Act.put, List.getElem_toArray, List.getElem_cons_zero, List.getElem_cons_succ, List.setIfInBounds_toArray, List.set_cons_zero, List.set_cons_succ]
            refine pi_load rfl (by rfl) 48 (.tmp 17) rfl b (off + (m + 1) * 16) rfl (evC x) _ (rangeAt_up hBd hr) Try.underlying48 rfl (by kernel_rfl) ?_
            try simp only [Act.put, List.getElem_toArray, List.getElem_cons_zero, List.getElem_cons_succ, List.setIfInBounds_toArray, List.set_cons_zero, List.set_cons_succ]
            refine pi_c rfl (by rfl) (fun K hK => ?_)
            go_simp
            refine (aloneR_c x _).mono ?_
            rw [hal]
            rintro e w4 ⟨rfl, hb4⟩
            have hB4 := below_up hBd hb4
            go_wp2_with fail
            have c1 : ∀ w', Below w4.heap.size w4 w' → w'.cell? ⟨b, off + (m + 1) * 16 + 1, none⟩ = some (.int .u64 x.at_) := fun w' h => cell_up (below_up hB4 h) (hr 1 _ rfl)
            have c2 : ∀ w', Below w4.heap.size w4 w' → w'.cell? ⟨b, off + m * 16 + 1, none⟩ = some (.int .u64 y.at_) := fun w' h => cell_up (below_up hB4 h) (hr2 1 _ rfl)
            refine hK.out _ _ hb4 ?_
            clear hK K
            try simp only [Act.put, List.getElem_toArray, List.getElem_cons_zero, List.getElem_cons_succ, List.setIfInBounds_toArray, List.set_cons_zero, List.set_cons_succ]
            refine pi_q (v := ?_) rfl (by rfl) ?_ ?_
            rotate_left
            · intro w' hBw'
              first | (go_simp; done) | (go_simp; with_reducible rfl)
            try simp only [Act.put, List.getElem_toArray, List.getElem_cons_zero, List.getElem_cons_succ, List.setIfInBounds_toArray, List.set_cons_zero, List.set_cons_succ]
            refine pi_q (v := ?_) rfl (by rfl) ?_ ?_
            rotate_left
            · intro w' hBw'
              first | (go_simp; done) | (go_simp; with_reducible rfl)
            try simp only [Act.put, List.getElem_toArray, List.getElem_cons_zero, List.getElem_cons_succ, List.setIfInBounds_toArray, List.set_cons_zero, List.set_cons_succ]
            refine pi_q (v := ?_) rfl (by rfl) ?_ ?_
            rotate_left
            · intro w' hBw'
              first | (go_simp; done) | (go_simp; with_reducible rfl)
            try simp only [Act.put, List.getElem_toArray, List.getElem_cons_zero, List.getElem_cons_succ, List.setIfInBounds_toArray, List.set_cons_zero, List.set_cons_succ]
            refine pi_q (v := ?_) rfl (by rfl) ?_ ?_
            rotate_left
            · intro w' hBw'
              first | (go_simp; done) | (go_simp; with_reducible rfl)
            try simp only [Act.put, List.getElem_toArray, List.getElem_cons_zero, List.getElem_cons_succ, List.setIfInBounds_toArray, List.set_cons_zero, List.set_cons_succ]
            refine pi_q (v := ?_) rfl (by rfl) ?_ ?_
            rotate_left
            · intro w' hBw'
              first | (go_simp; done) | (go_simp; with_reducible rfl)
            try simp only [Act.put, List.getElem_toArray, List.getElem_cons_zero, List.getElem_cons_succ, List.setIfInBounds_toArray, List.set_cons_zero, List.set_cons_succ]
            refine pi_q (v := ?_) rfl (by rfl) ?_ ?_
            rotate_left
            · intro w' hBw'
              first | (go_simp; done) | (go_simp; with_reducible rfl)
            try simp only [Act.put, List.getElem_toArray, List.getElem_cons_zero, List.getElem_cons_succ, List.setIfInBounds_toArray, List.set_cons_zero, List.set_cons_succ]
            refine pi_q (v := ?_) rfl (by rfl) ?_ ?_
            rotate_left
            · intro w' hBw'
              first | (go_simp; done) | (go_simp; with_reducible rfl)
            try simp only [Act.put, List.getElem_toArray, List.getElem_cons_zero, List.getElem_cons_succ, List.setIfInBounds_toArray, List.set_cons_zero, List.set_cons_succ]
            refine pi_q (v := ?_) rfl (by rfl) ?_ ?_
            rotate_left
            · intro w' hBw'
              first | (go_simp; done) | (go_simp; with_reducible rfl)
            try simp only [Act.put, List.getElem_toArray, List.getElem_cons_zero, List.getElem_cons_succ, List.setIfInBounds_toArray, List.set_cons_zero, List.set_cons_succ]
            refine pi_q (v := ?_) rfl (by rfl) ?_ ?_
            rotate_left
            · intro w' hBw'
              first | (go_simp; done) | (go_simp; with_reducible rfl)
            try simp only [Act.put, List.getElem_toArray, List.getElem_cons_zero, List.getElem_cons_succ, List.setIfInBounds_toArray, List.set_cons_zero, List.set_cons_succ]
            refine pi_q (v := ?_) rfl (by rfl) ?_ ?_
            rotate_left
            · intro w' hBw'
              first | (go_simp; done) | (go_simp; with_reducible rfl)
            try simp only [Act.put, List.getElem_toArray, List.getElem_cons_zero, List.getElem_cons_succ, List.setIfInBounds_toArray, List.set_cons_zero, List.set_cons_succ]
            refine pi_q (v := ?_) rfl (by rfl) ?_ ?_
            rotate_left
            · intro w' hBw'
              first | (go_simp; done) | (go_simp; with_reducible rfl)
            try simp only [Act.put, List.getElem_toArray, List.getElem_cons_zero, List.getElem_cons_succ, List.setIfInBounds_toArray, List.set_cons_zero, List.set_cons_succ]
            refine pi_q (v := ?_) rfl (by rfl) ?_ ?_
            rotate_left
            · intro w' hBw'
              first | (go_simp; done) | (go_simp; with_reducible rfl)
            try simp only [Act.put, List.getElem_toArray, List.getElem_cons_zero, List.getElem_cons_succ, List.setIfInBounds_toArray, List.set_cons_zero, List.set_cons_succ]
            refine pi_q (v := ?_) rfl (by rfl) ?_ ?_
            rotate_left
            · intro w' hBw'
              first | (go_simp; done) | (go_simp; with_reducible rfl)
            try simp only [Act.put, List.getElem_toArray, List.getElem_cons_zero, List.getElem_cons_succ, List.setIfInBounds_toArray, List.set_cons_zero, List.set_cons_succ]
            refine pi_q (v := ?_) rfl (by rfl) ?_ ?_
            rotate_left
            · intro w' hBw'
              first | (go_simp; done) | (go_simp; with_reducible rfl)
            try simp only [Act.put, List.getElem_toArray, List.getElem_cons_zero, List.getElem_cons_succ, List.setIfInBounds_toArray, List.set_cons_zero, List.set_cons_succ]
            refine pi_q (v := ?_) rfl (by rfl) ?_ ?_
            rotate_left
            · intro w' hBw'
              first | (go_simp; done) | (go_simp; with_reducible rfl)
            try simp only [Act.put, List.getElem_toArray, List.getElem_cons_zero, List.getElem_cons_succ, List.setIfInBounds_toArray, List.set_cons_zero, List.set_cons_succ]
            refine pi_q (v := ?_) rfl (by rfl) ?_ ?_
            rotate_left
            · intro w' hBw'
              first | (go_simp; done) | (go_simp; with_reducible rfl)
            try simp only [Act.put, List.getElem_toArray, List.getElem_cons_zero, List.getElem_cons_succ, List.setIfInBounds_toArray, List.set_cons_zero, List.set_cons_succ]
            refine pi_q (v := ?_) rfl (by rfl) ?_ ?_
            rotate_left
            · intro w' hBw'
              first | (go_simp; done) | (go_simp; with_reducible rfl)
            try simp only [Act.put, List.getElem_toArray, List.getElem_cons_zero, List.getElem_cons_succ, List.setIfInBounds_toArray, List.set_cons_zero, List.set_cons_succ]
            refine pi_q (v := ?_) rfl (by rfl) ?_ ?_
            rotate_left
            · intro w' hBw'
              first | (go_simp; done) | (go_simp; with_reducible rfl)
            try simp only [Act.put, List.getElem_toArray, List.getElem_cons_zero, List.getElem_cons_succ, List.setIfInBounds_toArray, List.set_cons_zero, List.set_cons_succ]
            refine pi_q (v := ?_) rfl (by rfl) ?_ ?_
            rotate_left
            · intro w' hBw'
              first | (go_simp; done) | (go_simp; with_reducible rfl)
            try simp only [Act.put, List.getElem_toArray, List.getElem_cons_zero, List.getElem_cons_succ, List.setIfInBounds_toArray, List.set_cons_zero, List.set_cons_succ]
            refine pi_nil ?_
            clear hr2 c1 c2
            have hB4' := below_up hB hB4
            have hr4 := rangeAt_up hB4 hr
            have hv4 := hvr.up hB4
            clear hr hvr hB hBd hb4 hB4
            go_wp2
            go_loopg [5] (m + 1) (fun gh i wi => ∃ q : Nat, q ≤ (m + 1) ∧ gh = (m + 1) - q ∧ i = .int .i64 q ∧ (∀ j, j < q → ∀ hj : j < l.length, pairB x l[j] = false) ∧ Below w4.heap.size w4 wi)
            case atStart => exact ⟨0, Nat.zero_le _, rfl, rfl, by intro j hj; omega, Below.refl _ _⟩
            case round =>
              obtain ⟨q, hq, rfl, rfl, hnp, hBi⟩ := hrel
              have Hnp := Lib.hid hnp; clear hnp
              have hBz := below_up hB4' hBi
              by_cases hqk : q < (m + 1)
              · have hql : q < l.length := by omega
                have hqi : (q : Int) < (m : Int) + 1 := by omega
                have hqn : (q : Int) < (n : Int) := by omega
                have hr := rangeAt_up hBi hr4
                obtain ⟨b', off', e', hry⟩ := (hv4.up hBi).rec_at (cells := evC) (sz := 16) (fun _ => rfl) (k := q) (by omega) hql
                simp only [Option.some.injEq, Addr.mk.injEq, and_true] at e'
                obtain ⟨rfl, rfl⟩ := e'
                have hmem : l[q] ∈ l.take (m + 1) := List.mem_take_iff_getElem.2 ⟨q, by omega, rfl⟩
                have HP := Lib.hid (fun (h : pairB x l[q] = false) j (hj : j < q + 1) (hj' : j < l.length) => (show pairB x l[j] = false from by
                  rcases Nat.lt_or_ge j q with h' | h'
                  · exact Hnp.out j h' hj'
                  · obtain rfl : j = q := by omega
                    exact h))
                have HM := Lib.hid hmem
                clear hmem hr4 hv4
                generalize l[q] = y at *
                cases hsx : saysB x with
                | false =>
                  have hp : pairB x y = false := by unfold pairB; rw [hsx]; rfl
                  go_wp2
                  refine wp_region_pi [(0, false), (1, false), (2, false), (3, false), (4, true), (5, false), (6, false), (7, false), (8, false), (9, false), (10, false), (11, false), (12, false), (13, false), (14, false), (15, false), (16, false), (17, false), (18, false), (19, false), (20, false), (21, false), (22, false), (23, false), (24, false), (25, false), (26, false), (27, false), (28, false), (29, false), (30, false), (31, false), (32, false), (33, false), (34, false)] (by kernel_rfl) (by kernel_rfl) (by kernel_rfl) rfl (fun _ _ d _ _ h => by cases d <;> exact h) (fun Wd hBd => ?_)
                  try simp only [Act.put, List.getElem_toArray, List.getElem_cons_zero, List.getElem_cons_succ, List.setIfInBounds_toArray, List.set_cons_zero, List.set_cons_succ]
                  refine pi_q (v := ?_) rfl (by rfl) ?_ ?_
                  rotate_left
                  · intro w' hBw'
                    first | (go_simp; done) | (go_simp; with_reducible rfl)
                  try simp only [Act.put, List.getElem_toArray, List.getElem_cons_zero, List.getElem_cons_succ, List.setIfInBounds_toArray, List.set_cons_zero, List.set_cons_succ]
                  refine pi_q (v := ?_) rfl (by rfl) ?_ ?_
                  rotate_left
                  · intro w' hBw'
                    first | (go_simp; done) | (go_simp; with_reducible rfl)
                  try simp only [Act.put, List.getElem_toArray, List.getElem_cons_zero, List.getElem_cons_succ, List.setIfInBounds_toArray, List.set_cons_zero, List.set_cons_succ]
                  refine pi_q (v := ?_) rfl (by rfl) ?_ ?_
                  rotate_left
                  · intro w' hBw'
                    first | (go_simp; done) | (go_simp; with_reducible rfl)
                  try simp only [Act.put, List.getElem_toArray, List.getElem_cons_zero, List.getElem_cons_succ, List.setIfInBounds_toArray, List.set_cons_zero, List.set_cons_succ]
                  refine pi_load rfl (by rfl) 48 (.tmp 47) rfl b (off + (m + 1) * 16) rfl (evC x) _ (rangeAt_up hBd hr) Try.underlying48 rfl (by kernel_rfl) ?_
                  try simp only [Act.put, List.getElem_toArray, List.getElem_cons_zero, List.getElem_cons_succ, List.setIfInBounds_toArray, List.set_cons_zero, List.set_cons_succ]
                  refine pi_c rfl (by rfl) (fun K hK => ?_)
                  go_simp
                  refine (saysR_c x _).mono ?_
                  rw [hsx]
                  rintro e w5 ⟨rfl, hb5⟩
                  have hB5 := below_up hBd hb5
                  go_wp2_with fail
                  refine hK.out _ _ hb5 ?_
                  clear hK K
                  try simp only [Act.put, List.getElem_toArray, List.getElem_cons_zero, List.getElem_cons_succ, List.setIfInBounds_toArray, List.set_cons_zero, List.set_cons_succ]
                  refine pi_q (v := ?_) rfl (by rfl) ?_ ?_
                  rotate_left
                  · intro w' hBw'
                    first | (go_simp; done) | (go_simp; with_reducible rfl)
                  try simp only [Act.put, List.getElem_toArray, List.getElem_cons_zero, List.getElem_cons_succ, List.setIfInBounds_toArray, List.set_cons_zero, List.set_cons_succ]
                  refine pi_no rfl (by rfl) ?_
                  try simp only [Act.put, List.getElem_toArray, List.getElem_cons_zero, List.getElem_cons_succ, List.setIfInBounds_toArray, List.set_cons_zero, List.set_cons_succ]
                  refine pi_no rfl (by rfl) ?_
                  try simp only [Act.put, List.getElem_toArray, List.getElem_cons_zero, List.getElem_cons_succ, List.setIfInBounds_toArray, List.set_cons_zero, List.set_cons_succ]
                  refine pi_no rfl (by rfl) ?_
                  try simp only [Act.put, List.getElem_toArray, List.getElem_cons_zero, List.getElem_cons_succ, List.setIfInBounds_toArray, List.set_cons_zero, List.set_cons_succ]
                  refine pi_no rfl (by rfl) ?_
                  try simp only [Act.put, List.getElem_toArray, List.getElem_cons_zero, List.getElem_cons_succ, List.setIfInBounds_toArray, List.set_cons_zero, List.set_cons_succ]
                  refine pi_no rfl (by rfl) ?_
                  try simp only [Act.put, List.getElem_toArray, List.getElem_cons_zero, List.getElem_cons_succ, List.setIfInBounds_toArray, List.set_cons_zero, List.set_cons_succ]
                  refine pi_q (v := ?_) rfl (by rfl) ?_ ?_
                  rotate_left
                  · intro w' hBw'
                    first | (go_simp; done) | (go_simp; with_reducible rfl)
                  try simp only [Act.put, List.getElem_toArray, List.getElem_cons_zero, List.getElem_cons_succ, List.setIfInBounds_toArray, List.set_cons_zero, List.set_cons_succ]
                  refine pi_q (v := ?_) rfl (by rfl) ?_ ?_
                  rotate_left
                  · intro w' hBw'
                    first | (go_simp; done) | (go_simp; with_reducible rfl)
                  try simp only [Act.put, List.getElem_toArray, List.getElem_cons_zero, List.getElem_cons_succ, List.setIfInBounds_toArray, List.set_cons_zero, List.set_cons_succ]
                  refine pi_no rfl (by rfl) ?_
                  try simp only [Act.put, List.getElem_toArray, List.getElem_cons_zero, List.getElem_cons_succ, List.setIfInBounds_toArray, List.set_cons_zero, List.set_cons_succ]
                  refine pi_no rfl (by rfl) ?_
                  try simp only [Act.put, List.getElem_toArray, List.getElem_cons_zero, List.getElem_cons_succ, List.setIfInBounds_toArray, List.set_cons_zero, List.set_cons_succ]
                  refine pi_no rfl (by rfl) ?_
                  try simp only [Act.put, List.getElem_toArray, List.getElem_cons_zero, List.getElem_cons_succ, List.setIfInBounds_toArray, List.set_cons_zero, List.set_cons_succ]
                  refine pi_no rfl (by rfl) ?_
                  try simp only [Act.put, List.getElem_toArray, List.getElem_cons_zero, List.getElem_cons_succ, List.setIfInBounds_toArray, List.set_cons_zero, List.set_cons_succ]
                  refine pi_no rfl (by rfl) ?_
                  try simp only [Act.put, List.getElem_toArray, List.getElem_cons_zero, List.getElem_cons_succ, List.setIfInBounds_toArray, List.set_cons_zero, List.set_cons_succ]
                  refine pi_no rfl (by rfl) ?_
                  try simp only [Act.put, List.getElem_toArray, List.getElem_cons_zero, List.getElem_cons_succ, List.setIfInBounds_toArray, List.set_cons_zero, List.set_cons_succ]
                  refine pi_no rfl (by rfl) ?_
                  try simp only [Act.put, List.getElem_toArray, List.getElem_cons_zero, List.getElem_cons_succ, List.setIfInBounds_toArray, List.set_cons_zero, List.set_cons_succ]
                  refine pi_no rfl (by rfl) ?_
                  try simp only [Act.put, List.getElem_toArray, List.getElem_cons_zero, List.getElem_cons_succ, List.setIfInBounds_toArray, List.set_cons_zero, List.set_cons_succ]
                  refine pi_no rfl (by rfl) ?_
                  try simp only [Act.put, List.getElem_toArray, List.getElem_cons_zero, List.getElem_cons_succ, List.setIfInBounds_toArray, List.set_cons_zero, List.set_cons_succ]
                  refine pi_no rfl (by rfl) ?_
                  try simp only [Act.put, List.getElem_toArray, List.getElem_cons_zero, List.getElem_cons_succ, List.setIfInBounds_toArray, List.set_cons_zero, List.set_cons_succ]
                  refine pi_no rfl (by rfl) ?_
                  try simp only [Act.put, List.getElem_toArray, List.getElem_cons_zero, List.getElem_cons_succ, List.setIfInBounds_toArray, List.set_cons_zero, List.set_cons_succ]
                  refine pi_q (v := ?_) rfl (by rfl) ?_ ?_
                  rotate_left
                  · intro w' hBw'
                    first | (go_simp; done) | (go_simp; with_reducible rfl)
                  try simp only [Act.put, List.getElem_toArray, List.getElem_cons_zero, List.getElem_cons_succ, List.setIfInBounds_toArray, List.set_cons_zero, List.set_cons_succ]
                  refine pi_q (v := ?_) rfl (by rfl) ?_ ?_
                  rotate_left
                  · intro w' hBw'
                    first | (go_simp; done) | (go_simp; with_reducible rfl)
                  try simp only [Act.put, List.getElem_toArray, List.getElem_cons_zero, List.getElem_cons_succ, List.setIfInBounds_toArray, List.set_cons_zero, List.set_cons_succ]
                  refine pi_no rfl (by rfl) ?_
                  try simp only [Act.put, List.getElem_toArray, List.getElem_cons_zero, List.getElem_cons_succ, List.setIfInBounds_toArray, List.set_cons_zero, List.set_cons_succ]
                  refine pi_no rfl (by rfl) ?_
                  try simp only [Act.put, List.getElem_toArray, List.getElem_cons_zero, List.getElem_cons_succ, List.setIfInBounds_toArray, List.set_cons_zero, List.set_cons_succ]
                  refine pi_no rfl (by rfl) ?_
                  try simp only [Act.put, List.getElem_toArray, List.getElem_cons_zero, List.getElem_cons_succ, List.setIfInBounds_toArray, List.set_cons_zero, List.set_cons_succ]
                  refine pi_no rfl (by rfl) ?_
                  try simp only [Act.put, List.getElem_toArray, List.getElem_cons_zero, List.getElem_cons_succ, List.setIfInBounds_toArray, List.set_cons_zero, List.set_cons_succ]
                  refine pi_no rfl (by rfl) ?_
                  try simp only [Act.put, List.getElem_toArray, List.getElem_cons_zero, List.getElem_cons_succ, List.setIfInBounds_toArray, List.set_cons_zero, List.set_cons_succ]
                  refine pi_no rfl (by rfl) ?_
                  try simp only [Act.put, List.getElem_toArray, List.getElem_cons_zero, List.getElem_cons_succ, List.setIfInBounds_toArray, List.set_cons_zero, List.set_cons_succ]
                  refine pi_no rfl (by rfl) ?_
                  try simp only [Act.put, List.getElem_toArray, List.getElem_cons_zero, List.getElem_cons_succ, List.setIfInBounds_toArray, List.set_cons_zero, List.set_cons_succ]
                  refine pi_no rfl (by rfl) ?_
                  try simp only [Act.put, List.getElem_toArray, List.getElem_cons_zero, List.getElem_cons_succ, List.setIfInBounds_toArray, List.set_cons_zero, List.set_cons_succ]
                  refine pi_q (v := ?_) rfl (by rfl) ?_ ?_
                  rotate_left
                  · intro w' hBw'
                    first | (go_simp; done) | (go_simp; with_reducible rfl)
                  try simp only [Act.put, List.getElem_toArray, List.getElem_cons_zero, List.getElem_cons_succ, List.setIfInBounds_toArray, List.set_cons_zero, List.set_cons_succ]
                  refine pi_nil ?_
                  go_wp2
                  go_roundg ((m + 1) - (q + 1))
                  case rel => exact ⟨q + 1, by omega, rfl, by go_num, HP.out hp, below_up hBi hB5⟩
                  case measure => omega
                | true =>
                  cases hsy : saysB y with
                  | false =>
                    have hp : pairB x y = false := by unfold pairB; rw [hsx, hsy]; rfl
                    go_wp2
                    refine wp_region_pi [(0, false), (1, false), (2, false), (3, false), (4, true), (5, false), (6, false), (7, false), (8, false), (9, false), (10, true), (11, false), (12, false), (13, false), (14, false), (15, false), (16, false), (17, false), (18, false), (19, false), (20, false), (21, false), (22, false), (23, false), (24, false), (25, false), (26, false), (27, false), (28, false), (29, false), (30, false), (31, false), (32, false), (33, false), (34, false)] (by kernel_rfl) (by kernel_rfl) (by kernel_rfl) rfl (fun _ _ d _ _ h => by cases d <;> exact h) (fun Wd hBd => ?_)
                    try simp only [Act.put, List.getElem_toArray, List.getElem_cons_zero, List.getElem_cons_succ, List.setIfInBounds_toArray, List.set_cons_zero, List.set_cons_succ]
                    refine pi_q (v := ?_) rfl (by rfl) ?_ ?_
                    rotate_left
                    · intro w' hBw'
                      first | (go_simp; done) | (go_simp; with_reducible rfl)
                    try simp only [Act.put, List.getElem_toArray, List.getElem_cons_zero, List.getElem_cons_succ, List.setIfInBounds_toArray, List.set_cons_zero, List.set_cons_succ]
                    refine pi_q (v := ?_) rfl (by rfl) ?_ ?_
                    rotate_left
                    · intro w' hBw'
                      first | (go_simp; done) | (go_simp; with_reducible rfl)
                    try simp only [Act.put, List.getElem_toArray, List.getElem_cons_zero, List.getElem_cons_succ, List.setIfInBounds_toArray, List.set_cons_zero, List.set_cons_succ]
                    refine pi_q (v := ?_) rfl (by rfl) ?_ ?_
                    rotate_left
                    · intro w' hBw'
                      first | (go_simp; done) | (go_simp; with_reducible rfl)
                    try simp only [Act.put, List.getElem_toArray, List.getElem_cons_zero, List.getElem_cons_succ, List.setIfInBounds_toArray, List.set_cons_zero, List.set_cons_succ]
                    refine pi_load rfl (by rfl) 48 (.tmp 47) rfl b (off + (m + 1) * 16) rfl (evC x) _ (rangeAt_up hBd hr) Try.underlying48 rfl (by kernel_rfl) ?_
                    try simp only [Act.put, List.getElem_toArray, List.getElem_cons_zero, List.getElem_cons_succ, List.setIfInBounds_toArray, List.set_cons_zero, List.set_cons_succ]
                    refine pi_c rfl (by rfl) (fun K hK => ?_)
                    go_simp
                    refine (saysR_c x _).mono ?_
                    rw [hsx]
                    rintro e w5 ⟨rfl, hb5⟩
                    have hB5 := below_up hBd hb5
                    go_wp2_with fail
                    refine hK.out _ _ hb5 ?_
                    clear hK K
                    try simp only [Act.put, List.getElem_toArray, List.getElem_cons_zero, List.getElem_cons_succ, List.setIfInBounds_toArray, List.set_cons_zero, List.set_cons_succ]
                    refine pi_q (v := ?_) rfl (by rfl) ?_ ?_
                    rotate_left
                    · intro w' hBw'
                      first | (go_simp; done) | (go_simp; with_reducible rfl)
                    try simp only [Act.put, List.getElem_toArray, List.getElem_cons_zero, List.getElem_cons_succ, List.setIfInBounds_toArray, List.set_cons_zero, List.set_cons_succ]
                    refine pi_q (v := ?_) rfl (by rfl) ?_ ?_
                    rotate_left
                    · intro w' hBw'
                      first | (go_simp; done) | (go_simp; with_reducible rfl)
                    try simp only [Act.put, List.getElem_toArray, List.getElem_cons_zero, List.getElem_cons_succ, List.setIfInBounds_toArray, List.set_cons_zero, List.set_cons_succ]
                    refine pi_q (v := ?_) rfl (by rfl) ?_ ?_
                    rotate_left
                    · intro w' hBw'
                      first | (go_simp; done) | (go_simp; with_reducible rfl)
                    try simp only [Act.put, List.getElem_toArray, List.getElem_cons_zero, List.getElem_cons_succ, List.setIfInBounds_toArray, List.set_cons_zero, List.set_cons_succ]
                    refine pi_q (v := ?_) rfl (by rfl) ?_ ?_
                    rotate_left
                    · intro w' hBw'
                      first | (go_simp; done) | (go_simp; with_reducible rfl)
                    try simp only [Act.put, List.getElem_toArray, List.getElem_cons_zero, List.getElem_cons_succ, List.setIfInBounds_toArray, List.set_cons_zero, List.set_cons_succ]
                    refine pi_load rfl (by rfl) 48 (.tmp 53) rfl b (off + q * 16) rfl (evC y) _ (rangeAt_up hB5 hry) Try.underlying48 rfl (by kernel_rfl) ?_
                    try simp only [Act.put, List.getElem_toArray, List.getElem_cons_zero, List.getElem_cons_succ, List.setIfInBounds_toArray, List.set_cons_zero, List.set_cons_succ]
                    refine pi_c rfl (by rfl) (fun K hK => ?_)
                    go_simp
                    refine (saysR_c y _).mono ?_
                    rw [hsy]
                    rintro e w6 ⟨rfl, hb6⟩
                    have hB6 := below_up hB5 hb6
                    go_wp2_with fail
                    refine hK.out _ _ hb6 ?_
                    clear hK K
                    try simp only [Act.put, List.getElem_toArray, List.getElem_cons_zero, List.getElem_cons_succ, List.setIfInBounds_toArray, List.set_cons_zero, List.set_cons_succ]
                    refine pi_q (v := ?_) rfl (by rfl) ?_ ?_
                    rotate_left
                    · intro w' hBw'
                      first | (go_simp; done) | (go_simp; with_reducible rfl)
                    try simp only [Act.put, List.getElem_toArray, List.getElem_cons_zero, List.getElem_cons_succ, List.setIfInBounds_toArray, List.set_cons_zero, List.set_cons_succ]
                    refine pi_q (v := ?_) rfl (by rfl) ?_ ?_
                    rotate_left
                    · intro w' hBw'
                      first | (go_simp; done) | (go_simp; with_reducible rfl)
                    try simp only [Act.put, List.getElem_toArray, List.getElem_cons_zero, List.getElem_cons_succ, List.setIfInBounds_toArray, List.set_cons_zero, List.set_cons_succ]
                    refine pi_no rfl (by rfl) ?_
                    try simp only [Act.put, List.getElem_toArray, List.getElem_cons_zero, List.getElem_cons_succ, List.setIfInBounds_toArray, List.set_cons_zero, List.set_cons_succ]
                    refine pi_no rfl (by rfl) ?_
                    try simp only [Act.put, List.getElem_toArray, List.getElem_cons_zero, List.getElem_cons_succ, List.setIfInBounds_toArray, List.set_cons_zero, List.set_cons_succ]
                    refine pi_no rfl (by rfl) ?_
                    try simp only [Act.put, List.getElem_toArray, List.getElem_cons_zero, List.getElem_cons_succ, List.setIfInBounds_toArray, List.set_cons_zero, List.set_cons_succ]
                    refine pi_no rfl (by rfl) ?_
                    try simp only [Act.put, List.getElem_toArray, List.getElem_cons_zero, List.getElem_cons_succ, List.setIfInBounds_toArray, List.set_cons_zero, List.set_cons_succ]
                    refine pi_no rfl (by rfl) ?_
                    try simp only [Act.put, List.getElem_toArray, List.getElem_cons_zero, List.getElem_cons_succ, List.setIfInBounds_toArray, List.set_cons_zero, List.set_cons_succ]
                    refine pi_no rfl (by rfl) ?_
                    try simp only [Act.put, List.getElem_toArray, List.getElem_cons_zero, List.getElem_cons_succ, List.setIfInBounds_toArray, List.set_cons_zero, List.set_cons_succ]
                    refine pi_no rfl (by rfl) ?_
                    try simp only [Act.put, List.getElem_toArray, List.getElem_cons_zero, List.getElem_cons_succ, List.setIfInBounds_toArray, List.set_cons_zero, List.set_cons_succ]
                    refine pi_no rfl (by rfl) ?_
                    try simp only [Act.put, List.getElem_toArray, List.getElem_cons_zero, List.getElem_cons_succ, List.setIfInBounds_toArray, List.set_cons_zero, List.set_cons_succ]
                    refine pi_no rfl (by rfl) ?_
                    try simp only [Act.put, List.getElem_toArray, List.getElem_cons_zero, List.getElem_cons_succ, List.setIfInBounds_toArray, List.set_cons_zero, List.set_cons_succ]
                    refine pi_no rfl (by rfl) ?_
                    try simp only [Act.put, List.getElem_toArray, List.getElem_cons_zero, List.getElem_cons_succ, List.setIfInBounds_toArray, List.set_cons_zero, List.set_cons_succ]
                    refine pi_no rfl (by rfl) ?_
                    try simp only [Act.put, List.getElem_toArray, List.getElem_cons_zero, List.getElem_cons_succ, List.setIfInBounds_toArray, List.set_cons_zero, List.set_cons_succ]
                    refine pi_q (v := ?_) rfl (by rfl) ?_ ?_
                    rotate_left
                    · intro w' hBw'
                      first | (go_simp; done) | (go_simp; with_reducible rfl)
                    try simp only [Act.put, List.getElem_toArray, List.getElem_cons_zero, List.getElem_cons_succ, List.setIfInBounds_toArray, List.set_cons_zero, List.set_cons_succ]
                    refine pi_q (v := ?_) rfl (by rfl) ?_ ?_
                    rotate_left
                    · intro w' hBw'
                      first | (go_simp; done) | (go_simp; with_reducible rfl)
                    try simp only [Act.put, List.getElem_toArray, List.getElem_cons_zero, List.getElem_cons_succ, List.setIfInBounds_toArray, List.set_cons_zero, List.set_cons_succ]
                    refine pi_no rfl (by rfl) ?_
                    try simp only [Act.put, List.getElem_toArray, List.getElem_cons_zero, List.getElem_cons_succ, List.setIfInBounds_toArray, List.set_cons_zero, List.set_cons_succ]
                    refine pi_no rfl (by rfl) ?_
                    try simp only [Act.put, List.getElem_toArray, List.getElem_cons_zero, List.getElem_cons_succ, List.setIfInBounds_toArray, List.set_cons_zero, List.set_cons_succ]
                    refine pi_no rfl (by rfl) ?_
                    try simp only [Act.put, List.getElem_toArray, List.getElem_cons_zero, List.getElem_cons_succ, List.setIfInBounds_toArray, List.set_cons_zero, List.set_cons_succ]
                    refine pi_no rfl (by rfl) ?_
                    try simp only [Act.put, List.getElem_toArray, List.getElem_cons_zero, List.getElem_cons_succ, List.setIfInBounds_toArray, List.set_cons_zero, List.set_cons_succ]
                    refine pi_no rfl (by rfl) ?_
                    try simp only [Act.put, List.getElem_toArray, List.getElem_cons_zero, List.getElem_cons_succ, List.setIfInBounds_toArray, List.set_cons_zero, List.set_cons_succ]
                    refine pi_no rfl (by rfl) ?_
                    try simp only [Act.put, List.getElem_toArray, List.getElem_cons_zero, List.getElem_cons_succ, List.setIfInBounds_toArray, List.set_cons_zero, List.set_cons_succ]
                    refine pi_no rfl (by rfl) ?_
                    try simp only [Act.put, List.getElem_toArray, List.getElem_cons_zero, List.getElem_cons_succ, List.setIfInBounds_toArray, List.set_cons_zero, List.set_cons_succ]
                    refine pi_no rfl (by rfl) ?_
                    try simp only [Act.put, List.getElem_toArray, List.getElem_cons_zero, List.getElem_cons_succ, List.setIfInBounds_toArray, List.set_cons_zero, List.set_cons_succ]
                    refine pi_q (v := ?_) rfl (by rfl) ?_ ?_
                    rotate_left
                    · intro w' hBw'
                      first | (go_simp; done) | (go_simp; with_reducible rfl)
                    try simp only [Act.put, List.getElem_toArray, List.getElem_cons_zero, List.getElem_cons_succ, List.setIfInBounds_toArray, List.set_cons_zero, List.set_cons_succ]
                    refine pi_nil ?_
                    go_wp2
                    go_roundg ((m + 1) - (q + 1))
                    case rel => exact ⟨q + 1, by omega, rfl, by go_num, HP.out hp, below_up hBi hB6⟩
                    case measure => omega
                  | true =>
                    by_cases hnm : x.name = y.name
                    · have hny : ∀ j, j < (nmC x.name).length → (nmC x.name)[j]? = (evC y)[5 + j]? := by rw [hnm]; exact evC_name y
                      by_cases hz : 0 < x.name.node
                      · obtain ⟨rfl, rfl⟩ := HS.out (sound_false (.inr (.inr (once_false HM.out (by unfold pairB; rw [hsx, hsy, decide_eq_true hnm, decide_eq_true hz]; rfl)))))
                        clear hnm
                        go_wp2
                        refine wp_region_pi [(0, false), (1, false), (2, false), (3, false), (4, true), (5, false), (6, false), (7, false), (8, false), (9, false), (10, true), (11, false), (12, false), (13, false), (14, false), (15, false), (16, false), (17, false), (18, false), (19, false), (20, false), (21, false), (22, false), (23, false), (24, false), (25, false), (26, false), (27, false), (28, false), (29, false), (30, false), (31, false), (32, false), (33, false), (34, false)] (by kernel_rfl) (by kernel_rfl) (by kernel_rfl) rfl (fun _ _ d _ _ h => by cases d <;> exact h) (fun Wd hBd => ?_)
                        try simp only [Act.put, List.getElem_toArray, List.getElem_cons_zero, List.getElem_cons_succ, List.setIfInBounds_toArray, List.set_cons_zero, List.set_cons_succ]
                        refine pi_q (v := ?_) rfl (by rfl) ?_ ?_
                        rotate_left
                        · intro w' hBw'
                          first | (go_simp; done) | (go_simp; with_reducible rfl)
                        try simp only [Act.put, List.getElem_toArray, List.getElem_cons_zero, List.getElem_cons_succ, List.setIfInBounds_toArray, List.set_cons_zero, List.set_cons_succ]
                        refine pi_q (v := ?_) rfl (by rfl) ?_ ?_
                        rotate_left
                        · intro w' hBw'
                          first | (go_simp; done) | (go_simp; with_reducible rfl)
                        try simp only [Act.put, List.getElem_toArray, List.getElem_cons_zero, List.getElem_cons_succ, List.setIfInBounds_toArray, List.set_cons_zero, List.set_cons_succ]
                        refine pi_q (v := ?_) rfl (by rfl) ?_ ?_
                        rotate_left
                        · intro w' hBw'
                          first | (go_simp; done) | (go_simp; with_reducible rfl)
                        try simp only [Act.put, List.getElem_toArray, List.getElem_cons_zero, List.getElem_cons_succ, List.setIfInBounds_toArray, List.set_cons_zero, List.set_cons_succ]
                        refine pi_load rfl (by rfl) 48 (.tmp 47) rfl b (off + (m + 1) * 16) rfl (evC x) _ (rangeAt_up hBd hr) Try.underlying48 rfl (by kernel_rfl) ?_
                        try simp only [Act.put, List.getElem_toArray, List.getElem_cons_zero, List.getElem_cons_succ, List.setIfInBounds_toArray, List.set_cons_zero, List.set_cons_succ]
                        refine pi_c rfl (by rfl) (fun K hK => ?_)
                        go_simp
                        refine (saysR_c x _).mono ?_
                        rw [hsx]
                        rintro e w5 ⟨rfl, hb5⟩
                        have hB5 := below_up hBd hb5
                        go_wp2_with fail
                        refine hK.out _ _ hb5 ?_
                        clear hK K
                        try simp only [Act.put, List.getElem_toArray, List.getElem_cons_zero, List.getElem_cons_succ, List.setIfInBounds_toArray, List.set_cons_zero, List.set_cons_succ]
                        refine pi_q (v := ?_) rfl (by rfl) ?_ ?_
                        rotate_left
                        · intro w' hBw'
                          first | (go_simp; done) | (go_simp; with_reducible rfl)
                        try simp only [Act.put, List.getElem_toArray, List.getElem_cons_zero, List.getElem_cons_succ, List.setIfInBounds_toArray, List.set_cons_zero, List.set_cons_succ]
                        refine pi_q (v := ?_) rfl (by rfl) ?_ ?_
                        rotate_left
                        · intro w' hBw'
                          first | (go_simp; done) | (go_simp; with_reducible rfl)
                        try simp only [Act.put, List.getElem_toArray, List.getElem_cons_zero, List.getElem_cons_succ, List.setIfInBounds_toArray, List.set_cons_zero, List.set_cons_succ]
                        refine pi_q (v := ?_) rfl (by rfl) ?_ ?_
                        rotate_left
                        · intro w' hBw'
                          first | (go_simp; done) | (go_simp; with_reducible rfl)
                        try simp only [Act.put, List.getElem_toArray, List.getElem_cons_zero, List.getElem_cons_succ, List.setIfInBounds_toArray, List.set_cons_zero, List.set_cons_succ]
                        refine pi_q (v := ?_) rfl (by rfl) ?_ ?_
                        rotate_left
                        · intro w' hBw'
                          first | (go_simp; done) | (go_simp; with_reducible rfl)
                        try simp only [Act.put, List.getElem_toArray, List.getElem_cons_zero, List.getElem_cons_succ, List.setIfInBounds_toArray, List.set_cons_zero, List.set_cons_succ]
                        refine pi_load rfl (by rfl) 48 (.tmp 53) rfl b (off + q * 16) rfl (evC y) _ (rangeAt_up hB5 hry) Try.underlying48 rfl (by kernel_rfl) ?_
                        try simp only [Act.put, List.getElem_toArray, List.getElem_cons_zero, List.getElem_cons_succ, List.setIfInBounds_toArray, List.set_cons_zero, List.set_cons_succ]
                        refine pi_c rfl (by rfl) (fun K hK => ?_)
                        go_simp
                        refine (saysR_c y _).mono ?_
                        rw [hsy]
                        rintro e w6 ⟨rfl, hb6⟩
                        have hB6 := below_up hB5 hb6
                        go_wp2_with fail
                        refine hK.out _ _ hb6 ?_
                        clear hK K
                        try simp only [Act.put, List.getElem_toArray, List.getElem_cons_zero, List.getElem_cons_succ, List.setIfInBounds_toArray, List.set_cons_zero, List.set_cons_succ]
                        refine pi_q (v := ?_) rfl (by rfl) ?_ ?_
                        rotate_left
                        · intro w' hBw'
                          first | (go_simp; done) | (go_simp; with_reducible rfl)
                        try simp only [Act.put, List.getElem_toArray, List.getElem_cons_zero, List.getElem_cons_succ, List.setIfInBounds_toArray, List.set_cons_zero, List.set_cons_succ]
                        refine pi_q (v := ?_) rfl (by rfl) ?_ ?_
                        rotate_left
                        · intro w' hBw'
                          first | (go_simp; done) | (go_simp; with_reducible rfl)
                        try simp only [Act.put, List.getElem_toArray, List.getElem_cons_zero, List.getElem_cons_succ, List.setIfInBounds_toArray, List.set_cons_zero, List.set_cons_succ]
                        refine pi_q (v := ?_) rfl (by rfl) ?_ ?_
                        rotate_left
                        · intro w' hBw'
                          first | (go_simp; done) | (go_simp; with_reducible rfl)
                        try simp only [Act.put, List.getElem_toArray, List.getElem_cons_zero, List.getElem_cons_succ, List.setIfInBounds_toArray, List.set_cons_zero, List.set_cons_succ]
                        refine pi_q (v := ?_) rfl (by rfl) ?_ ?_
                        rotate_left
                        · intro w' hBw'
                          first | (go_simp; done) | (go_simp; with_reducible rfl)
                        try simp only [Act.put, List.getElem_toArray, List.getElem_cons_zero, List.getElem_cons_succ, List.setIfInBounds_toArray, List.set_cons_zero, List.set_cons_succ]
                        refine pi_q (v := ?_) rfl (by rfl) ?_ ?_
                        rotate_left
                        · intro w' hBw'
                          first | (go_simp; done) | (go_simp; with_reducible rfl)
                        try simp only [Act.put, List.getElem_toArray, List.getElem_cons_zero, List.getElem_cons_succ, List.setIfInBounds_toArray, List.set_cons_zero, List.set_cons_succ]
                        refine pi_q (v := ?_) rfl (by rfl) ?_ ?_
                        rotate_left
                        · intro w' hBw'
                          first | (go_simp; done) | (go_simp; with_reducible rfl)
                        try simp only [Act.put, List.getElem_toArray, List.getElem_cons_zero, List.getElem_cons_succ, List.setIfInBounds_toArray, List.set_cons_zero, List.set_cons_succ]
                        refine pi_load rfl (by rfl) 39 (.tmp 61) rfl b (off + (m + 1) * 16 + 5) rfl (nmC x.name) _ (rangeAt_sub (rangeAt_up hB6 hr) 5 _ rfl (evC_name _)) Try.underlying39 rfl (by kernel_rfl) ?_
                        try simp only [Act.put, List.getElem_toArray, List.getElem_cons_zero, List.getElem_cons_succ, List.setIfInBounds_toArray, List.set_cons_zero, List.set_cons_succ]
                        refine pi_q (v := ?_) rfl (by rfl) ?_ ?_
                        rotate_left
                        · intro w' hBw'
                          first | (go_simp; done) | (go_simp; with_reducible rfl)
                        try simp only [Act.put, List.getElem_toArray, List.getElem_cons_zero, List.getElem_cons_succ, List.setIfInBounds_toArray, List.set_cons_zero, List.set_cons_succ]
                        refine pi_q (v := ?_) rfl (by rfl) ?_ ?_
                        rotate_left
                        · intro w' hBw'
                          first | (go_simp; done) | (go_simp; with_reducible rfl)
                        try simp only [Act.put, List.getElem_toArray, List.getElem_cons_zero, List.getElem_cons_succ, List.setIfInBounds_toArray, List.set_cons_zero, List.set_cons_succ]
                        refine pi_q (v := ?_) rfl (by rfl) ?_ ?_
                        rotate_left
                        · intro w' hBw'
                          first | (go_simp; done) | (go_simp; with_reducible rfl)
                        try simp only [Act.put, List.getElem_toArray, List.getElem_cons_zero, List.getElem_cons_succ, List.setIfInBounds_toArray, List.set_cons_zero, List.set_cons_succ]
                        refine pi_q (v := ?_) rfl (by rfl) ?_ ?_
                        rotate_left
                        · intro w' hBw'
                          first | (go_simp; done) | (go_simp; with_reducible rfl)
                        try simp only [Act.put, List.getElem_toArray, List.getElem_cons_zero, List.getElem_cons_succ, List.setIfInBounds_toArray, List.set_cons_zero, List.set_cons_succ]
                        refine pi_load rfl (by rfl) 39 (.tmp 66) rfl b (off + q * 16 + 5) rfl (nmC x.name) _ (rangeAt_sub (rangeAt_up hB6 hry) 5 _ rfl hny) Try.underlying39 rfl (by kernel_rfl) ?_
                        try simp only [Act.put, List.getElem_toArray, List.getElem_cons_zero, List.getElem_cons_succ, List.setIfInBounds_toArray, List.set_cons_zero, List.set_cons_succ]
                        have c7 : ∀ w', Below w6.heap.size w6 w' → w'.cell? ⟨b, off + (m + 1) * 16 + 5, none⟩ = some (.int .u32 x.name.node) := fun w' h => cell_up (below_up hB6 h) (hr 5 _ rfl)
                        refine pi_q (v := ?_) rfl (by rfl) ?_ ?_
                        rotate_left
                        · intro w' hBw'
                          first | (go_simp; done) | (go_simp; with_reducible rfl)
                        try simp only [Act.put, List.getElem_toArray, List.getElem_cons_zero, List.getElem_cons_succ, List.setIfInBounds_toArray, List.set_cons_zero, List.set_cons_succ]
                        refine pi_q (v := ?_) rfl (by rfl) ?_ ?_
                        rotate_left
                        · intro w' hBw'
                          first | (go_simp; done) | (go_simp; with_reducible rfl)
                        try simp only [Act.put, List.getElem_toArray, List.getElem_cons_zero, List.getElem_cons_succ, List.setIfInBounds_toArray, List.set_cons_zero, List.set_cons_succ]
                        refine pi_q (v := ?_) rfl (by rfl) ?_ ?_
                        rotate_left
                        · intro w' hBw'
                          first | (go_simp; done) | (go_simp; with_reducible rfl)
                        try simp only [Act.put, List.getElem_toArray, List.getElem_cons_zero, List.getElem_cons_succ, List.setIfInBounds_toArray, List.set_cons_zero, List.set_cons_succ]
                        refine pi_q (v := ?_) rfl (by rfl) ?_ ?_
                        rotate_left
                        · intro w' hBw'
                          first | (go_simp; done) | (go_simp; with_reducible rfl)
                        try simp only [Act.put, List.getElem_toArray, List.getElem_cons_zero, List.getElem_cons_succ, List.setIfInBounds_toArray, List.set_cons_zero, List.set_cons_succ]
                        refine pi_q (v := ?_) rfl (by rfl) ?_ ?_
                        rotate_left
                        · intro w' hBw'
                          first | (go_simp; done) | (go_simp; with_reducible rfl)
                        try simp only [Act.put, List.getElem_toArray, List.getElem_cons_zero, List.getElem_cons_succ, List.setIfInBounds_toArray, List.set_cons_zero, List.set_cons_succ]
                        refine pi_q (v := ?_) rfl (by rfl) ?_ ?_
                        rotate_left
                        · intro w' hBw'
                          first | (go_simp; done) | (go_simp; with_reducible rfl)
                        try simp only [Act.put, List.getElem_toArray, List.getElem_cons_zero, List.getElem_cons_succ, List.setIfInBounds_toArray, List.set_cons_zero, List.set_cons_succ]
                        refine pi_q (v := ?_) rfl (by rfl) ?_ ?_
                        rotate_left
                        · intro w' hBw'
                          first | (go_simp; done) | (go_simp; with_reducible rfl)
                        try simp only [Act.put, List.getElem_toArray, List.getElem_cons_zero, List.getElem_cons_succ, List.setIfInBounds_toArray, List.set_cons_zero, List.set_cons_succ]
                        refine pi_q (v := ?_) rfl (by rfl) ?_ ?_
                        rotate_left
                        · intro w' hBw'
                          first | (go_simp; done) | (go_simp; with_reducible rfl)
                        try simp only [Act.put, List.getElem_toArray, List.getElem_cons_zero, List.getElem_cons_succ, List.setIfInBounds_toArray, List.set_cons_zero, List.set_cons_succ]
                        refine pi_q (v := ?_) rfl (by rfl) ?_ ?_
                        rotate_left
                        · intro w' hBw'
                          first | (go_simp; done) | (go_simp; with_reducible rfl)
                        try simp only [Act.put, List.getElem_toArray, List.getElem_cons_zero, List.getElem_cons_succ, List.setIfInBounds_toArray, List.set_cons_zero, List.set_cons_succ]
                        refine pi_q (v := ?_) rfl (by rfl) ?_ ?_
                        rotate_left
                        · intro w' hBw'
                          first | (go_simp; done) | (go_simp; with_reducible rfl)
                        try simp only [Act.put, List.getElem_toArray, List.getElem_cons_zero, List.getElem_cons_succ, List.setIfInBounds_toArray, List.set_cons_zero, List.set_cons_succ]
                        refine pi_q (v := ?_) rfl (by rfl) ?_ ?_
                        rotate_left
                        · intro w' hBw'
                          first | (go_simp; done) | (go_simp; with_reducible rfl)
                        try simp only [Act.put, List.getElem_toArray, List.getElem_cons_zero, List.getElem_cons_succ, List.setIfInBounds_toArray, List.set_cons_zero, List.set_cons_succ]
                        refine pi_q (v := ?_) rfl (by rfl) ?_ ?_
                        rotate_left
                        · intro w' hBw'
                          first | (go_simp; done) | (go_simp; with_reducible rfl)
                        try simp only [Act.put, List.getElem_toArray, List.getElem_cons_zero, List.getElem_cons_succ, List.setIfInBounds_toArray, List.set_cons_zero, List.set_cons_succ]
                        refine pi_nil ?_
                        go_wp2
                        go_ret2
                        exact ⟨rfl, below_up hBz hB6⟩
                      · have hp : pairB x y = false := by unfold pairB; rw [hsx, hsy, decide_eq_true hnm, decide_eq_false hz]; rfl
                        clear hnm
                        go_wp2
                        refine wp_region_pi [(0, false), (1, false), (2, false), (3, false), (4, true), (5, false), (6, false), (7, false), (8, false), (9, false), (10, true), (11, false), (12, false), (13, false), (14, false), (15, false), (16, false), (17, false), (18, false), (19, false), (20, false), (21, false), (22, false), (23, false), (24, false), (25, false), (26, false), (27, false), (28, false), (29, false), (30, false), (31, false), (32, false), (33, false), (34, false)] (by kernel_rfl) (by kernel_rfl) (by kernel_rfl) rfl (fun _ _ d _ _ h => by cases d <;> exact h) (fun Wd hBd => ?_)
                        try simp only [Act.put, List.getElem_toArray, List.getElem_cons_zero, List.getElem_cons_succ, List.setIfInBounds_toArray, List.set_cons_zero, List.set_cons_succ]
                        refine pi_q (v := ?_) rfl (by rfl) ?_ ?_
                        rotate_left
                        · intro w' hBw'
                          first | (go_simp; done) | (go_simp; with_reducible rfl)
                        try simp only [Act.put, List.getElem_toArray, List.getElem_cons_zero, List.getElem_cons_succ, List.setIfInBounds_toArray, List.set_cons_zero, List.set_cons_succ]
                        refine pi_q (v := ?_) rfl (by rfl) ?_ ?_
                        rotate_left
                        · intro w' hBw'
                          first | (go_simp; done) | (go_simp; with_reducible rfl)
                        try simp only [Act.put, List.getElem_toArray, List.getElem_cons_zero, List.getElem_cons_succ, List.setIfInBounds_toArray, List.set_cons_zero, List.set_cons_succ]
                        refine pi_q (v := ?_) rfl (by rfl) ?_ ?_
                        rotate_left
                        · intro w' hBw'
                          first | (go_simp; done) | (go_simp; with_reducible rfl)
                        try simp only [Act.put, List.getElem_toArray, List.getElem_cons_zero, List.getElem_cons_succ, List.setIfInBounds_toArray, List.set_cons_zero, List.set_cons_succ]
                        refine pi_load rfl (by rfl) 48 (.tmp 47) rfl b (off + (m + 1) * 16) rfl (evC x) _ (rangeAt_up hBd hr) Try.underlying48 rfl (by kernel_rfl) ?_
                        try simp only [Act.put, List.getElem_toArray, List.getElem_cons_zero, List.getElem_cons_succ, List.setIfInBounds_toArray, List.set_cons_zero, List.set_cons_succ]
                        refine pi_c rfl (by rfl) (fun K hK => ?_)
                        go_simp
                        refine (saysR_c x _).mono ?_
                        rw [hsx]
                        rintro e w5 ⟨rfl, hb5⟩
                        have hB5 := below_up hBd hb5
                        go_wp2_with fail
                        refine hK.out _ _ hb5 ?_
                        clear hK K
                        try simp only [Act.put, List.getElem_toArray, List.getElem_cons_zero, List.getElem_cons_succ, List.setIfInBounds_toArray, List.set_cons_zero, List.set_cons_succ]
                        refine pi_q (v := ?_) rfl (by rfl) ?_ ?_
                        rotate_left
                        · intro w' hBw'
                          first | (go_simp; done) | (go_simp; with_reducible rfl)
                        try simp only [Act.put, List.getElem_toArray, List.getElem_cons_zero, List.getElem_cons_succ, List.setIfInBounds_toArray, List.set_cons_zero, List.set_cons_succ]
                        refine pi_q (v := ?_) rfl (by rfl) ?_ ?_
                        rotate_left
                        · intro w' hBw'
                          first | (go_simp; done) | (go_simp; with_reducible rfl)
                        try simp only [Act.put, List.getElem_toArray, List.getElem_cons_zero, List.getElem_cons_succ, List.setIfInBounds_toArray, List.set_cons_zero, List.set_cons_succ]
                        refine pi_q (v := ?_) rfl (by rfl) ?_ ?_
                        rotate_left
                        · intro w' hBw'
                          first | (go_simp; done) | (go_simp; with_reducible rfl)
                        try simp only [Act.put, List.getElem_toArray, List.getElem_cons_zero, List.getElem_cons_succ, List.setIfInBounds_toArray, List.set_cons_zero, List.set_cons_succ]
                        refine pi_q (v := ?_) rfl (by rfl) ?_ ?_
                        rotate_left
                        · intro w' hBw'
                          first | (go_simp; done) | (go_simp; with_reducible rfl)
                        try simp only [Act.put, List.getElem_toArray, List.getElem_cons_zero, List.getElem_cons_succ, List.setIfInBounds_toArray, List.set_cons_zero, List.set_cons_succ]
                        refine pi_load rfl (by rfl) 48 (.tmp 53) rfl b (off + q * 16) rfl (evC y) _ (rangeAt_up hB5 hry) Try.underlying48 rfl (by kernel_rfl) ?_
                        try simp only [Act.put, List.getElem_toArray, List.getElem_cons_zero, List.getElem_cons_succ, List.setIfInBounds_toArray, List.set_cons_zero, List.set_cons_succ]
                        refine pi_c rfl (by rfl) (fun K hK => ?_)
                        go_simp
                        refine (saysR_c y _).mono ?_
                        rw [hsy]
                        rintro e w6 ⟨rfl, hb6⟩
                        have hB6 := below_up hB5 hb6
                        go_wp2_with fail
                        refine hK.out _ _ hb6 ?_
                        clear hK K
                        try simp only [Act.put, List.getElem_toArray, List.getElem_cons_zero, List.getElem_cons_succ, List.setIfInBounds_toArray, List.set_cons_zero, List.set_cons_succ]
                        refine pi_q (v := ?_) rfl (by rfl) ?_ ?_
                        rotate_left
                        · intro w' hBw'
                          first | (go_simp; done) | (go_simp; with_reducible rfl)
                        try simp only [Act.put, List.getElem_toArray, List.getElem_cons_zero, List.getElem_cons_succ, List.setIfInBounds_toArray, List.set_cons_zero, List.set_cons_succ]
                        refine pi_q (v := ?_) rfl (by rfl) ?_ ?_
                        rotate_left
                        · intro w' hBw'
                          first | (go_simp; done) | (go_simp; with_reducible rfl)
                        try simp only [Act.put, List.getElem_toArray, List.getElem_cons_zero, List.getElem_cons_succ, List.setIfInBounds_toArray, List.set_cons_zero, List.set_cons_succ]
                        refine pi_q (v := ?_) rfl (by rfl) ?_ ?_
                        rotate_left
                        · intro w' hBw'
                          first | (go_simp; done) | (go_simp; with_reducible rfl)
                        try simp only [Act.put, List.getElem_toArray, List.getElem_cons_zero, List.getElem_cons_succ, List.setIfInBounds_toArray, List.set_cons_zero, List.set_cons_succ]
                        refine pi_q (v := ?_) rfl (by rfl) ?_ ?_
                        rotate_left
                        · intro w' hBw'
                          first | (go_simp; done) | (go_simp; with_reducible rfl)
                        try simp only [Act.put, List.getElem_toArray, List.getElem_cons_zero, List.getElem_cons_succ, List.setIfInBounds_toArray, List.set_cons_zero, List.set_cons_succ]
                        refine pi_q (v := ?_) rfl (by rfl) ?_ ?_
                        rotate_left
                        · intro w' hBw'
                          first | (go_simp; done) | (go_simp; with_reducible rfl)
                        try simp only [Act.put, List.getElem_toArray, List.getElem_cons_zero, List.getElem_cons_succ, List.setIfInBounds_toArray, List.set_cons_zero, List.set_cons_succ]
                        refine pi_q (v := ?_) rfl (by rfl) ?_ ?_
                        rotate_left
                        · intro w' hBw'
                          first | (go_simp; done) | (go_simp; with_reducible rfl)
                        try simp only [Act.put, List.getElem_toArray, List.getElem_cons_zero, List.getElem_cons_succ, List.setIfInBounds_toArray, List.set_cons_zero, List.set_cons_succ]
                        refine pi_load rfl (by rfl) 39 (.tmp 61) rfl b (off + (m + 1) * 16 + 5) rfl (nmC x.name) _ (rangeAt_sub (rangeAt_up hB6 hr) 5 _ rfl (evC_name _)) Try.underlying39 rfl (by kernel_rfl) ?_
                        try simp only [Act.put, List.getElem_toArray, List.getElem_cons_zero, List.getElem_cons_succ, List.setIfInBounds_toArray, List.set_cons_zero, List.set_cons_succ]
                        refine pi_q (v := ?_) rfl (by rfl) ?_ ?_
                        rotate_left
                        · intro w' hBw'
                          first | (go_simp; done) | (go_simp; with_reducible rfl)
                        try simp only [Act.put, List.getElem_toArray, List.getElem_cons_zero, List.getElem_cons_succ, List.setIfInBounds_toArray, List.set_cons_zero, List.set_cons_succ]
                        refine pi_q (v := ?_) rfl (by rfl) ?_ ?_
                        rotate_left
                        · intro w' hBw'
                          first | (go_simp; done) | (go_simp; with_reducible rfl)
                        try simp only [Act.put, List.getElem_toArray, List.getElem_cons_zero, List.getElem_cons_succ, List.setIfInBounds_toArray, List.set_cons_zero, List.set_cons_succ]
                        refine pi_q (v := ?_) rfl (by rfl) ?_ ?_
                        rotate_left
                        · intro w' hBw'
                          first | (go_simp; done) | (go_simp; with_reducible rfl)
                        try simp only [Act.put, List.getElem_toArray, List.getElem_cons_zero, List.getElem_cons_succ, List.setIfInBounds_toArray, List.set_cons_zero, List.set_cons_succ]
                        refine pi_q (v := ?_) rfl (by rfl) ?_ ?_
                        rotate_left
                        · intro w' hBw'
                          first | (go_simp; done) | (go_simp; with_reducible rfl)
                        try simp only [Act.put, List.getElem_toArray, List.getElem_cons_zero, List.getElem_cons_succ, List.setIfInBounds_toArray, List.set_cons_zero, List.set_cons_succ]
                        refine pi_load rfl (by rfl) 39 (.tmp 66) rfl b (off + q * 16 + 5) rfl (nmC x.name) _ (rangeAt_sub (rangeAt_up hB6 hry) 5 _ rfl hny) Try.underlying39 rfl (by kernel_rfl) ?_
                        try simp only [Act.put, List.getElem_toArray, List.getElem_cons_zero, List.getElem_cons_succ, List.setIfInBounds_toArray, List.set_cons_zero, List.set_cons_succ]
                        have c7 : ∀ w', Below w6.heap.size w6 w' → w'.cell? ⟨b, off + (m + 1) * 16 + 5, none⟩ = some (.int .u32 x.name.node) := fun w' h => cell_up (below_up hB6 h) (hr 5 _ rfl)
                        refine pi_q (v := ?_) rfl (by rfl) ?_ ?_
                        rotate_left
                        · intro w' hBw'
                          first | (go_simp; done) | (go_simp; with_reducible rfl)
                        try simp only [Act.put, List.getElem_toArray, List.getElem_cons_zero, List.getElem_cons_succ, List.setIfInBounds_toArray, List.set_cons_zero, List.set_cons_succ]
                        refine pi_q (v := ?_) rfl (by rfl) ?_ ?_
                        rotate_left
                        · intro w' hBw'
                          first | (go_simp; done) | (go_simp; with_reducible rfl)
                        try simp only [Act.put, List.getElem_toArray, List.getElem_cons_zero, List.getElem_cons_succ, List.setIfInBounds_toArray, List.set_cons_zero, List.set_cons_succ]
                        refine pi_q (v := ?_) rfl (by rfl) ?_ ?_
                        rotate_left
                        · intro w' hBw'
                          first | (go_simp; done) | (go_simp; with_reducible rfl)
                        try simp only [Act.put, List.getElem_toArray, List.getElem_cons_zero, List.getElem_cons_succ, List.setIfInBounds_toArray, List.set_cons_zero, List.set_cons_succ]
                        refine pi_q (v := ?_) rfl (by rfl) ?_ ?_
                        rotate_left
                        · intro w' hBw'
                          first | (go_simp; done) | (go_simp; with_reducible rfl)
                        try simp only [Act.put, List.getElem_toArray, List.getElem_cons_zero, List.getElem_cons_succ, List.setIfInBounds_toArray, List.set_cons_zero, List.set_cons_succ]
                        refine pi_q (v := ?_) rfl (by rfl) ?_ ?_
                        rotate_left
                        · intro w' hBw'
                          first | (go_simp; done) | (go_simp; with_reducible rfl)
                        try simp only [Act.put, List.getElem_toArray, List.getElem_cons_zero, List.getElem_cons_succ, List.setIfInBounds_toArray, List.set_cons_zero, List.set_cons_succ]
                        refine pi_q (v := ?_) rfl (by rfl) ?_ ?_
                        rotate_left
                        · intro w' hBw'
                          first | (go_simp; done) | (go_simp; with_reducible rfl)
                        try simp only [Act.put, List.getElem_toArray, List.getElem_cons_zero, List.getElem_cons_succ, List.setIfInBounds_toArray, List.set_cons_zero, List.set_cons_succ]
                        refine pi_q (v := ?_) rfl (by rfl) ?_ ?_
                        rotate_left
                        · intro w' hBw'
                          first | (go_simp; done) | (go_simp; with_reducible rfl)
                        try simp only [Act.put, List.getElem_toArray, List.getElem_cons_zero, List.getElem_cons_succ, List.setIfInBounds_toArray, List.set_cons_zero, List.set_cons_succ]
                        refine pi_q (v := ?_) rfl (by rfl) ?_ ?_
                        rotate_left
                        · intro w' hBw'
                          first | (go_simp; done) | (go_simp; with_reducible rfl)
                        try simp only [Act.put, List.getElem_toArray, List.getElem_cons_zero, List.getElem_cons_succ, List.setIfInBounds_toArray, List.set_cons_zero, List.set_cons_succ]
                        refine pi_q (v := ?_) rfl (by rfl) ?_ ?_
                        rotate_left
                        · intro w' hBw'
                          first | (go_simp; done) | (go_simp; with_reducible rfl)
                        try simp only [Act.put, List.getElem_toArray, List.getElem_cons_zero, List.getElem_cons_succ, List.setIfInBounds_toArray, List.set_cons_zero, List.set_cons_succ]
                        refine pi_q (v := ?_) rfl (by rfl) ?_ ?_
                        rotate_left
                        · intro w' hBw'
                          first | (go_simp; done) | (go_simp; with_reducible rfl)
                        try simp only [Act.put, List.getElem_toArray, List.getElem_cons_zero, List.getElem_cons_succ, List.setIfInBounds_toArray, List.set_cons_zero, List.set_cons_succ]
                        refine pi_q (v := ?_) rfl (by rfl) ?_ ?_
                        rotate_left
                        · intro w' hBw'
                          first | (go_simp; done) | (go_simp; with_reducible rfl)
                        try simp only [Act.put, List.getElem_toArray, List.getElem_cons_zero, List.getElem_cons_succ, List.setIfInBounds_toArray, List.set_cons_zero, List.set_cons_succ]
                        refine pi_q (v := ?_) rfl (by rfl) ?_ ?_
                        rotate_left
                        · intro w' hBw'
                          first | (go_simp; done) | (go_simp; with_reducible rfl)
                        try simp only [Act.put, List.getElem_toArray, List.getElem_cons_zero, List.getElem_cons_succ, List.setIfInBounds_toArray, List.set_cons_zero, List.set_cons_succ]
                        refine pi_nil ?_
                        go_wp2
                        go_roundg ((m + 1) - (q + 1))
                        case rel => exact ⟨q + 1, by omega, rfl, by go_num, HP.out hp, below_up hBi hB6⟩
                        case measure => omega
                    · have hp : pairB x y = false := by unfold pairB; rw [hsx, hsy, decide_eq_false hnm]; rfl
                      have hne := nm_ne hnm
                      go_wp2
                      refine wp_region_pi [(0, false), (1, false), (2, false), (3, false), (4, true), (5, false), (6, false), (7, false), (8, false), (9, false), (10, true), (11, false), (12, false), (13, false), (14, false), (15, false), (16, false), (17, false), (18, false), (19, false), (20, false), (21, false), (22, false), (23, false), (24, false), (25, false), (26, false), (27, false), (28, false), (29, false), (30, false), (31, false), (32, false), (33, false), (34, false)] (by kernel_rfl) (by kernel_rfl) (by kernel_rfl) rfl (fun _ _ d _ _ h => by cases d <;> exact h) (fun Wd hBd => ?_)
                      try simp only [Act.put, List.getElem_toArray, List.getElem_cons_zero, List.getElem_cons_succ, List.setIfInBounds_toArray, List.set_cons_zero, List.set_cons_succ]
                      refine pi_q (v := ?_) rfl (by rfl) ?_ ?_
                      rotate_left
                      · intro w' hBw'
                        first | (go_simp; done) | (go_simp; with_reducible rfl)
                      try simp only [Act.put, List.getElem_toArray, List.getElem_cons_zero, List.getElem_cons_succ, List.setIfInBounds_toArray, List.set_cons_zero, List.set_cons_succ]
                      refine pi_q (v := ?_) rfl (by rfl) ?_ ?_
                      rotate_left
                      · intro w' hBw'
                        first | (go_simp; done) | (go_simp; with_reducible rfl)
                      try simp only [Act.put, List.getElem_toArray, List.getElem_cons_zero, List.getElem_cons_succ, List.setIfInBounds_toArray, List.set_cons_zero, List.set_cons_succ]
                      refine pi_q (v := ?_) rfl (by rfl) ?_ ?_
                      rotate_left
                      · intro w' hBw'
                        first | (go_simp; done) | (go_simp; with_reducible rfl)
                      try simp only [Act.put, List.getElem_toArray, List.getElem_cons_zero, List.getElem_cons_succ, List.setIfInBounds_toArray, List.set_cons_zero, List.set_cons_succ]
                      refine pi_load rfl (by rfl) 48 (.tmp 47) rfl b (off + (m + 1) * 16) rfl (evC x) _ (rangeAt_up hBd hr) Try.underlying48 rfl (by kernel_rfl) ?_
                      try simp only [Act.put, List.getElem_toArray, List.getElem_cons_zero, List.getElem_cons_succ, List.setIfInBounds_toArray, List.set_cons_zero, List.set_cons_succ]
                      refine pi_c rfl (by rfl) (fun K hK => ?_)
                      go_simp
                      refine (saysR_c x _).mono ?_
                      rw [hsx]
                      rintro e w5 ⟨rfl, hb5⟩
                      have hB5 := below_up hBd hb5
                      go_wp2_with fail
                      refine hK.out _ _ hb5 ?_
                      clear hK K
                      try simp only [Act.put, List.getElem_toArray, List.getElem_cons_zero, List.getElem_cons_succ, List.setIfInBounds_toArray, List.set_cons_zero, List.set_cons_succ]
                      refine pi_q (v := ?_) rfl (by rfl) ?_ ?_
                      rotate_left
                      · intro w' hBw'
                        first | (go_simp; done) | (go_simp; with_reducible rfl)
                      try simp only [Act.put, List.getElem_toArray, List.getElem_cons_zero, List.getElem_cons_succ, List.setIfInBounds_toArray, List.set_cons_zero, List.set_cons_succ]
                      refine pi_q (v := ?_) rfl (by rfl) ?_ ?_
                      rotate_left
                      · intro w' hBw'
                        first | (go_simp; done) | (go_simp; with_reducible rfl)
                      try simp only [Act.put, List.getElem_toArray, List.getElem_cons_zero, List.getElem_cons_succ, List.setIfInBounds_toArray, List.set_cons_zero, List.set_cons_succ]
                      refine pi_q (v := ?_) rfl (by rfl) ?_ ?_
                      rotate_left
                      · intro w' hBw'
                        first | (go_simp; done) | (go_simp; with_reducible rfl)
                      try simp only [Act.put, List.getElem_toArray, List.getElem_cons_zero, List.getElem_cons_succ, List.setIfInBounds_toArray, List.set_cons_zero, List.set_cons_succ]
                      refine pi_q (v := ?_) rfl (by rfl) ?_ ?_
                      rotate_left
                      · intro w' hBw'
                        first | (go_simp; done) | (go_simp; with_reducible rfl)
                      try simp only [Act.put, List.getElem_toArray, List.getElem_cons_zero, List.getElem_cons_succ, List.setIfInBounds_toArray, List.set_cons_zero, List.set_cons_succ]
                      refine pi_load rfl (by rfl) 48 (.tmp 53) rfl b (off + q * 16) rfl (evC y) _ (rangeAt_up hB5 hry) Try.underlying48 rfl (by kernel_rfl) ?_
                      try simp only [Act.put, List.getElem_toArray, List.getElem_cons_zero, List.getElem_cons_succ, List.setIfInBounds_toArray, List.set_cons_zero, List.set_cons_succ]
                      refine pi_c rfl (by rfl) (fun K hK => ?_)
                      go_simp
                      refine (saysR_c y _).mono ?_
                      rw [hsy]
                      rintro e w6 ⟨rfl, hb6⟩
                      have hB6 := below_up hB5 hb6
                      go_wp2_with fail
                      refine hK.out _ _ hb6 ?_
                      clear hK K
                      try simp only [Act.put, List.getElem_toArray, List.getElem_cons_zero, List.getElem_cons_succ, List.setIfInBounds_toArray, List.set_cons_zero, List.set_cons_succ]
                      refine pi_q (v := ?_) rfl (by rfl) ?_ ?_
                      rotate_left
                      · intro w' hBw'
                        first | (go_simp; done) | (go_simp; with_reducible rfl)
                      try simp only [Act.put, List.getElem_toArray, List.getElem_cons_zero, List.getElem_cons_succ, List.setIfInBounds_toArray, List.set_cons_zero, List.set_cons_succ]
                      refine pi_q (v := ?_) rfl (by rfl) ?_ ?_
                      rotate_left
                      · intro w' hBw'
                        first | (go_simp; done) | (go_simp; with_reducible rfl)
                      try simp only [Act.put, List.getElem_toArray, List.getElem_cons_zero, List.getElem_cons_succ, List.setIfInBounds_toArray, List.set_cons_zero, List.set_cons_succ]
                      refine pi_q (v := ?_) rfl (by rfl) ?_ ?_
                      rotate_left
                      · intro w' hBw'
                        first | (go_simp; done) | (go_simp; with_reducible rfl)
                      try simp only [Act.put, List.getElem_toArray, List.getElem_cons_zero, List.getElem_cons_succ, List.setIfInBounds_toArray, List.set_cons_zero, List.set_cons_succ]
                      refine pi_q (v := ?_) rfl (by rfl) ?_ ?_
                      rotate_left
                      · intro w' hBw'
                        first | (go_simp; done) | (go_simp; with_reducible rfl)
                      try simp only [Act.put, List.getElem_toArray, List.getElem_cons_zero, List.getElem_cons_succ, List.setIfInBounds_toArray, List.set_cons_zero, List.set_cons_succ]
                      refine pi_q (v := ?_) rfl (by rfl) ?_ ?_
                      rotate_left
                      · intro w' hBw'
                        first | (go_simp; done) | (go_simp; with_reducible rfl)
                      try simp only [Act.put, List.getElem_toArray, List.getElem_cons_zero, List.getElem_cons_succ, List.setIfInBounds_toArray, List.set_cons_zero, List.set_cons_succ]
                      refine pi_q (v := ?_) rfl (by rfl) ?_ ?_
                      rotate_left
                      · intro w' hBw'
                        first | (go_simp; done) | (go_simp; with_reducible rfl)
                      try simp only [Act.put, List.getElem_toArray, List.getElem_cons_zero, List.getElem_cons_succ, List.setIfInBounds_toArray, List.set_cons_zero, List.set_cons_succ]
                      refine pi_load rfl (by rfl) 39 (.tmp 61) rfl b (off + (m + 1) * 16 + 5) rfl (nmC x.name) _ (rangeAt_sub (rangeAt_up hB6 hr) 5 _ rfl (evC_name _)) Try.underlying39 rfl (by kernel_rfl) ?_
                      try simp only [Act.put, List.getElem_toArray, List.getElem_cons_zero, List.getElem_cons_succ, List.setIfInBounds_toArray, List.set_cons_zero, List.set_cons_succ]
                      refine pi_q (v := ?_) rfl (by rfl) ?_ ?_
                      rotate_left
                      · intro w' hBw'
                        first | (go_simp; done) | (go_simp; with_reducible rfl)
                      try simp only [Act.put, List.getElem_toArray, List.getElem_cons_zero, List.getElem_cons_succ, List.setIfInBounds_toArray, List.set_cons_zero, List.set_cons_succ]
                      refine pi_q (v := ?_) rfl (by rfl) ?_ ?_
                      rotate_left
                      · intro w' hBw'
                        first | (go_simp; done) | (go_simp; with_reducible rfl)
                      try simp only [Act.put, List.getElem_toArray, List.getElem_cons_zero, List.getElem_cons_succ, List.setIfInBounds_toArray, List.set_cons_zero, List.set_cons_succ]
                      refine pi_q (v := ?_) rfl (by rfl) ?_ ?_
                      rotate_left
                      · intro w' hBw'
                        first | (go_simp; done) | (go_simp; with_reducible rfl)
                      try simp only [Act.put, List.getElem_toArray, List.getElem_cons_zero, List.getElem_cons_succ, List.setIfInBounds_toArray, List.set_cons_zero, List.set_cons_succ]
                      refine pi_q (v := ?_) rfl (by rfl) ?_ ?_
                      rotate_left
                      · intro w' hBw'
                        first | (go_simp; done) | (go_simp; with_reducible rfl)
                      try simp only [Act.put, List.getElem_toArray, List.getElem_cons_zero, List.getElem_cons_succ, List.setIfInBounds_toArray, List.set_cons_zero, List.set_cons_succ]
                      refine pi_load rfl (by rfl) 39 (.tmp 66) rfl b (off + q * 16 + 5) rfl (nmC y.name) _ (rangeAt_sub (rangeAt_up hB6 hry) 5 _ rfl (evC_name _)) Try.underlying39 rfl (by kernel_rfl) ?_
                      try simp only [Act.put, List.getElem_toArray, List.getElem_cons_zero, List.getElem_cons_succ, List.setIfInBounds_toArray, List.set_cons_zero, List.set_cons_succ]
                      refine pi_q (v := .bool false) rfl (by rfl) (fun w' hBw' => by rcases hne with h | ⟨h1, h⟩ | ⟨h1, h2, h⟩ | ⟨h1, h2, h3, h⟩ <;> go_simp) ?_
                      try simp only [Act.put, List.getElem_toArray, List.getElem_cons_zero, List.getElem_cons_succ, List.setIfInBounds_toArray, List.set_cons_zero, List.set_cons_succ]
                      refine pi_q (v := ?_) rfl (by rfl) ?_ ?_
                      rotate_left
                      · intro w' hBw'
                        first | (go_simp; done) | (go_simp; with_reducible rfl)
                      try simp only [Act.put, List.getElem_toArray, List.getElem_cons_zero, List.getElem_cons_succ, List.setIfInBounds_toArray, List.set_cons_zero, List.set_cons_succ]
                      refine pi_q (v := ?_) rfl (by rfl) ?_ ?_
                      rotate_left
                      · intro w' hBw'
                        first | (go_simp; done) | (go_simp; with_reducible rfl)
                      try simp only [Act.put, List.getElem_toArray, List.getElem_cons_zero, List.getElem_cons_succ, List.setIfInBounds_toArray, List.set_cons_zero, List.set_cons_succ]
                      refine pi_no rfl (by rfl) ?_
                      try simp only [Act.put, List.getElem_toArray, List.getElem_cons_zero, List.getElem_cons_succ, List.setIfInBounds_toArray, List.set_cons_zero, List.set_cons_succ]
                      refine pi_no rfl (by rfl) ?_
                      try simp only [Act.put, List.getElem_toArray, List.getElem_cons_zero, List.getElem_cons_succ, List.setIfInBounds_toArray, List.set_cons_zero, List.set_cons_succ]
                      refine pi_no rfl (by rfl) ?_
                      try simp only [Act.put, List.getElem_toArray, List.getElem_cons_zero, List.getElem_cons_succ, List.setIfInBounds_toArray, List.set_cons_zero, List.set_cons_succ]
                      refine pi_no rfl (by rfl) ?_
                      try simp only [Act.put, List.getElem_toArray, List.getElem_cons_zero, List.getElem_cons_succ, List.setIfInBounds_toArray, List.set_cons_zero, List.set_cons_succ]
                      refine pi_no rfl (by rfl) ?_
                      try simp only [Act.put, List.getElem_toArray, List.getElem_cons_zero, List.getElem_cons_succ, List.setIfInBounds_toArray, List.set_cons_zero, List.set_cons_succ]
                      refine pi_no rfl (by rfl) ?_
                      try simp only [Act.put, List.getElem_toArray, List.getElem_cons_zero, List.getElem_cons_succ, List.setIfInBounds_toArray, List.set_cons_zero, List.set_cons_succ]
                      refine pi_no rfl (by rfl) ?_
                      try simp only [Act.put, List.getElem_toArray, List.getElem_cons_zero, List.getElem_cons_succ, List.setIfInBounds_toArray, List.set_cons_zero, List.set_cons_succ]
                      refine pi_no rfl (by rfl) ?_
                      try simp only [Act.put, List.getElem_toArray, List.getElem_cons_zero, List.getElem_cons_succ, List.setIfInBounds_toArray, List.set_cons_zero, List.set_cons_succ]
                      refine pi_q (v := ?_) rfl (by rfl) ?_ ?_
                      rotate_left
                      · intro w' hBw'
                        first | (go_simp; done) | (go_simp; with_reducible rfl)
                      try simp only [Act.put, List.getElem_toArray, List.getElem_cons_zero, List.getElem_cons_succ, List.setIfInBounds_toArray, List.set_cons_zero, List.set_cons_succ]
                      refine pi_nil ?_
                      go_wp2
                      go_roundg ((m + 1) - (q + 1))
                      case rel => exact ⟨q + 1, by omega, rfl, by go_num, HP.out hp, below_up hBi hB6⟩
                      case measure => omega
              · have hqe : q = (m + 1) := by omega
                subst hqe
                have hon : onceB (l.take (m + 1)) x = true := once_true hx0 (fun y hy => by
                  obtain ⟨i, hi, rfl⟩ := List.mem_take_iff_getElem.1 hy
                  exact Hnp.out i (by omega) (by omega))
                have hso := HN.out (sound_true hal hR hon)
                have Hso := Lib.hid hso
                clear hso hon
                go_wp2
                go_roundg (n - ((m + 1) + 1))
                case rel => exact ⟨(m + 1) + 1, by omega, rfl, by go_num, Hso.out, hBz⟩
                case measure => omega
          · have hat' : x.at_ < y.at_ := by omega
            obtain ⟨rfl, rfl⟩ := HS.out (sound_false (.inr (.inl (by rw [hR]; exact decide_eq_false hat))))
            go_wp2
            refine wp_region_pi [(0, false), (1, false), (2, false), (3, false), (4, true), (5, false), (6, false), (7, false), (8, false), (9, false), (10, false), (11, false), (12, false), (13, false), (14, false), (15, false), (16, false), (17, false), (18, false), (19, false), (20, false), (21, false), (22, false), (23, false)] (by kernel_rfl) (by kernel_rfl) (by kernel_rfl) rfl (fun _ _ d _ _ h => by cases d <;> exact h) (fun Wd hBd => ?_)
            try simp only [Act.put, List.getElem_toArray, List.getElem_cons_zero, List.getElem_cons_succ, List.setIfInBounds_toArray, List.set_cons_zero, List.set_cons_succ]
            refine pi_q (v := ?_) rfl (by rfl) ?_ ?_
            rotate_left
            · intro w' hBw'
              first | (go_simp; done) | (go_simp; with_reducible rfl)
            try simp only [Act.put, List.getElem_toArray, List.getElem_cons_zero, List.getElem_cons_succ, List.setIfInBounds_toArray, List.set_cons_zero, List.set_cons_succ]
            refine pi_q (v := ?_) rfl (by rfl) ?_ ?_
            rotate_left
            · intro w' hBw'
              first | (go_simp; done) | (go_simp; with_reducible rfl)
            try simp only [Act.put, List.getElem_toArray, List.getElem_cons_zero, List.getElem_cons_succ, List.setIfInBounds_toArray, List.set_cons_zero, List.set_cons_succ]
            refine pi_q (v := ?_) rfl (by rfl) ?_ ?_
            rotate_left
            · intro w' hBw'
              first | (go_simp; done) | (go_simp; with_reducible rfl)
            try simp only [Act.put, List.getElem_toArray, List.getElem_cons_zero, List.getElem_cons_succ, List.setIfInBounds_toArray, List.set_cons_zero, List.set_cons_succ]
            refine pi_load rfl (by rfl) 48 (.tmp 17) rfl b (off + (m + 1) * 16) rfl (evC x) _ (rangeAt_up hBd hr) Try.underlying48 rfl (by kernel_rfl) ?_
            try simp only [Act.put, List.getElem_toArray, List.getElem_cons_zero, List.getElem_cons_succ, List.setIfInBounds_toArray, List.set_cons_zero, List.set_cons_succ]
            refine pi_c rfl (by rfl) (fun K hK => ?_)
            go_simp
            refine (aloneR_c x _).mono ?_
            rw [hal]
            rintro e w4 ⟨rfl, hb4⟩
            have hB4 := below_up hBd hb4
            go_wp2_with fail
            have c1 : ∀ w', Below w4.heap.size w4 w' → w'.cell? ⟨b, off + (m + 1) * 16 + 1, none⟩ = some (.int .u64 x.at_) := fun w' h => cell_up (below_up hB4 h) (hr 1 _ rfl)
            have c2 : ∀ w', Below w4.heap.size w4 w' → w'.cell? ⟨b, off + m * 16 + 1, none⟩ = some (.int .u64 y.at_) := fun w' h => cell_up (below_up hB4 h) (hr2 1 _ rfl)
            refine hK.out _ _ hb4 ?_
            clear hK K
            try simp only [Act.put, List.getElem_toArray, List.getElem_cons_zero, List.getElem_cons_succ, List.setIfInBounds_toArray, List.set_cons_zero, List.set_cons_succ]
            refine pi_q (v := ?_) rfl (by rfl) ?_ ?_
            rotate_left
            · intro w' hBw'
              first | (go_simp; done) | (go_simp; with_reducible rfl)
            try simp only [Act.put, List.getElem_toArray, List.getElem_cons_zero, List.getElem_cons_succ, List.setIfInBounds_toArray, List.set_cons_zero, List.set_cons_succ]
            refine pi_q (v := ?_) rfl (by rfl) ?_ ?_
            rotate_left
            · intro w' hBw'
              first | (go_simp; done) | (go_simp; with_reducible rfl)
            try simp only [Act.put, List.getElem_toArray, List.getElem_cons_zero, List.getElem_cons_succ, List.setIfInBounds_toArray, List.set_cons_zero, List.set_cons_succ]
            refine pi_q (v := ?_) rfl (by rfl) ?_ ?_
            rotate_left
            · intro w' hBw'
              first | (go_simp; done) | (go_simp; with_reducible rfl)
            try simp only [Act.put, List.getElem_toArray, List.getElem_cons_zero, List.getElem_cons_succ, List.setIfInBounds_toArray, List.set_cons_zero, List.set_cons_succ]
            refine pi_q (v := ?_) rfl (by rfl) ?_ ?_
            rotate_left
            · intro w' hBw'
              first | (go_simp; done) | (go_simp; with_reducible rfl)
            try simp only [Act.put, List.getElem_toArray, List.getElem_cons_zero, List.getElem_cons_succ, List.setIfInBounds_toArray, List.set_cons_zero, List.set_cons_succ]
            refine pi_q (v := ?_) rfl (by rfl) ?_ ?_
            rotate_left
            · intro w' hBw'
              first | (go_simp; done) | (go_simp; with_reducible rfl)
            try simp only [Act.put, List.getElem_toArray, List.getElem_cons_zero, List.getElem_cons_succ, List.setIfInBounds_toArray, List.set_cons_zero, List.set_cons_succ]
            refine pi_q (v := ?_) rfl (by rfl) ?_ ?_
            rotate_left
            · intro w' hBw'
              first | (go_simp; done) | (go_simp; with_reducible rfl)
            try simp only [Act.put, List.getElem_toArray, List.getElem_cons_zero, List.getElem_cons_succ, List.setIfInBounds_toArray, List.set_cons_zero, List.set_cons_succ]
            refine pi_q (v := ?_) rfl (by rfl) ?_ ?_
            rotate_left
            · intro w' hBw'
              first | (go_simp; done) | (go_simp; with_reducible rfl)
            try simp only [Act.put, List.getElem_toArray, List.getElem_cons_zero, List.getElem_cons_succ, List.setIfInBounds_toArray, List.set_cons_zero, List.set_cons_succ]
            refine pi_q (v := ?_) rfl (by rfl) ?_ ?_
            rotate_left
            · intro w' hBw'
              first | (go_simp; done) | (go_simp; with_reducible rfl)
            try simp only [Act.put, List.getElem_toArray, List.getElem_cons_zero, List.getElem_cons_succ, List.setIfInBounds_toArray, List.set_cons_zero, List.set_cons_succ]
            refine pi_q (v := ?_) rfl (by rfl) ?_ ?_
            rotate_left
            · intro w' hBw'
              first | (go_simp; done) | (go_simp; with_reducible rfl)
            try simp only [Act.put, List.getElem_toArray, List.getElem_cons_zero, List.getElem_cons_succ, List.setIfInBounds_toArray, List.set_cons_zero, List.set_cons_succ]
            refine pi_q (v := ?_) rfl (by rfl) ?_ ?_
            rotate_left
            · intro w' hBw'
              first | (go_simp; done) | (go_simp; with_reducible rfl)
            try simp only [Act.put, List.getElem_toArray, List.getElem_cons_zero, List.getElem_cons_succ, List.setIfInBounds_toArray, List.set_cons_zero, List.set_cons_succ]
            refine pi_q (v := ?_) rfl (by rfl) ?_ ?_
            rotate_left
            · intro w' hBw'
              first | (go_simp; done) | (go_simp; with_reducible rfl)
            try simp only [Act.put, List.getElem_toArray, List.getElem_cons_zero, List.getElem_cons_succ, List.setIfInBounds_toArray, List.set_cons_zero, List.set_cons_succ]
            refine pi_q (v := ?_) rfl (by rfl) ?_ ?_
            rotate_left
            · intro w' hBw'
              first | (go_simp; done) | (go_simp; with_reducible rfl)
            try simp only [Act.put, List.getElem_toArray, List.getElem_cons_zero, List.getElem_cons_succ, List.setIfInBounds_toArray, List.set_cons_zero, List.set_cons_succ]
            refine pi_q (v := ?_) rfl (by rfl) ?_ ?_
            rotate_left
            · intro w' hBw'
              first | (go_simp; done) | (go_simp; with_reducible rfl)
            try simp only [Act.put, List.getElem_toArray, List.getElem_cons_zero, List.getElem_cons_succ, List.setIfInBounds_toArray, List.set_cons_zero, List.set_cons_succ]
            refine pi_q (v := ?_) rfl (by rfl) ?_ ?_
            rotate_left
            · intro w' hBw'
              first | (go_simp; done) | (go_simp; with_reducible rfl)
            try simp only [Act.put, List.getElem_toArray, List.getElem_cons_zero, List.getElem_cons_succ, List.setIfInBounds_toArray, List.set_cons_zero, List.set_cons_succ]
            refine pi_q (v := ?_) rfl (by rfl) ?_ ?_
            rotate_left
            · intro w' hBw'
              first | (go_simp; done) | (go_simp; with_reducible rfl)
            try simp only [Act.put, List.getElem_toArray, List.getElem_cons_zero, List.getElem_cons_succ, List.setIfInBounds_toArray, List.set_cons_zero, List.set_cons_succ]
            refine pi_q (v := ?_) rfl (by rfl) ?_ ?_
            rotate_left
            · intro w' hBw'
              first | (go_simp; done) | (go_simp; with_reducible rfl)
            try simp only [Act.put, List.getElem_toArray, List.getElem_cons_zero, List.getElem_cons_succ, List.setIfInBounds_toArray, List.set_cons_zero, List.set_cons_succ]
            refine pi_q (v := ?_) rfl (by rfl) ?_ ?_
            rotate_left
            · intro w' hBw'
              first | (go_simp; done) | (go_simp; with_reducible rfl)
            try simp only [Act.put, List.getElem_toArray, List.getElem_cons_zero, List.getElem_cons_succ, List.setIfInBounds_toArray, List.set_cons_zero, List.set_cons_succ]
            refine pi_q (v := ?_) rfl (by rfl) ?_ ?_
            rotate_left
            · intro w' hBw'
              first | (go_simp; done) | (go_simp; with_reducible rfl)
            try simp only [Act.put, List.getElem_toArray, List.getElem_cons_zero, List.getElem_cons_succ, List.setIfInBounds_toArray, List.set_cons_zero, List.set_cons_succ]
            refine pi_q (v := ?_) rfl (by rfl) ?_ ?_
            rotate_left
            · intro w' hBw'
              first | (go_simp; done) | (go_simp; with_reducible rfl)
            try simp only [Act.put, List.getElem_toArray, List.getElem_cons_zero, List.getElem_cons_succ, List.setIfInBounds_toArray, List.set_cons_zero, List.set_cons_succ]
            refine pi_nil ?_
            go_wp2
            go_ret2
            exact ⟨rfl, below_up hB hB4⟩
    · obtain rfl : k = n := by omega
      obtain ⟨rfl, rfl⟩ := Hnone.out (fun i hi => Hno.out i (by have := Hln.out; omega) hi)
      go_wp2
      go_ret2
      exact ⟨rfl, hB⟩
end Go.Proofs.Ythlgoclidgfejaa
