/-
  Contracts of BinarySearchFunc at contacts, Same, Copy, At.
-/
import Derived.Test.YtgbpdchdcbnoaaaConC
namespace Go.Proofs.Ytgbpdchdcbnoaaa
open Go.RowKit Vol
set_option linter.unusedSimpArgs false
set_option linter.unusedVariables false

namespace Vol
/-- How many stand ahead. -/
def posF (L : List Ct) (c : Ct) : Nat := (L.takeWhile fun x => decide (ordF x c < 0)).length
def Mono (L : List Ct) (c : Ct) : Prop := ∀ i j (hj : j < L.length), (h : i < j) → ordF L[j] c < 0 → ordF (L[i]'(by omega)) c < 0
theorem takeWhile_len {α : Type} {p : α → Bool} : ∀ {L : List α} {i : Nat}, i ≤ L.length → (∀ j (hj : j < L.length), j < i → p L[j] = true) → (∀ hj : i < L.length, p L[i] = false) → (L.takeWhile p).length = i
  | [], i, h0, _, _ => by simp at h0; simp [h0]
  | x :: L, 0, _, _, h2 => by
    have := h2 (by simp)
    simp at this
    simp [List.takeWhile, this]
  | x :: L, i + 1, h0, h1, h2 => by
    have hx := h1 0 (by simp) (by omega)
    simp at hx
    rw [List.takeWhile_cons_of_pos (by simpa using hx), List.length_cons, takeWhile_len (i := i) (by simp at h0; omega) (fun j hj hji => by have := h1 (j + 1) (by simp; omega) (by omega); simpa using this) (fun hj => by have := h2 (by simp; omega); simpa using this)]
theorem posF_eq {L : List Ct} {c : Ct} {i : Nat} (h0 : i ≤ L.length) (h1 : ∀ j (hj : j < L.length), j < i → ordF L[j] c < 0) (h2 : ∀ j (hj : j < L.length), i ≤ j → ¬ ordF L[j] c < 0) : posF L c = i :=
  takeWhile_len h0 (fun j hj hji => decide_eq_true (h1 j hj hji)) (fun hj => decide_eq_false (h2 i hj (Nat.le_refl _)))
theorem posF_le (L : List Ct) (c : Ct) : posF L c ≤ L.length := by unfold posF; exact (List.takeWhile_sublist _).length_le
end Vol

set_option maxHeartbeats 2000000 in
set_option maxRecDepth 100000 in
theorem search_c (l : List Ct) (v : Value) (n : Nat) (c : Ct) (w : World) (hv : Sl w 5 v n (l.flatMap ctC)) (hm : Mono l c) (hmx : n ≤ 4611686018427387903) :
    Calls Try.prog 38 #[v, ctV c, .func (.func 39) #[] #[]] w (fun en w' => ∃ b : Bool, en = .returned (.tuple #[.int .i64 (posF l c), .bool b]) ∧ Below w.heap.size w w') := by
  have Hln := Lib.hid (Sl.recs (cells := ctC) (sz := 5) (fun _ => rfl) (by decide) hv)
  obtain ⟨av, cv, rfl⟩ := hv.len
  have hB0 := below_alloc w (.cells (ctC c).toArray 27)
  have K0 := RowAt.new w (ctC c).toArray 27
  have HM := Lib.hid hm
  obtain ⟨R, hR⟩ : ∃ R, R = posF l c := ⟨_, rfl⟩
  rw [← hR]
  have HR := Lib.hid hR
  clear hm hR
  go_enter Try.func38, Try.ntmps38
  go_wp2
  go_loopw [9, 10] (fun s t wr => ∃ i j : Nat, s = .int .i64 i ∧ t = .int .i64 j ∧ i ≤ j ∧ j ≤ n ∧ RowKit.Hid (∀ k (hk : k < l.length), k < i → ordF l[k] c < 0) ∧ RowKit.Hid (∀ k (hk : k < l.length), j ≤ k → 0 ≤ ordF l[k] c) ∧ RowAt wr w.heap.size (ctC c).toArray 27 ∧ Below w.heap.size w wr) (fun s t _ => (intOf t).toNat - (intOf s).toNat)
  case atStart => exact ⟨0, n, rfl, rfl, Nat.zero_le _, Nat.le_refl _, Lib.hid (fun k hk h => by omega), Lib.hid (fun k hk h => by have := Hln.out; omega), K0, hB0⟩
  case round =>
    obtain ⟨i, j, rfl, rfl, hij, hjn, Hlo, Hhi, K, hB⟩ := hrel
    clear K0 hB0
    by_cases hlt : i < j
    · have hlt' : (i : Int) < (j : Int) := by omega
      go_wp2
      obtain ⟨h, hh⟩ : ∃ h : Nat, ((i : Int) + (j : Int)) / 2 = (h : Int) := ⟨(i + j) / 2, by omega⟩
      have hh1 : i ≤ h ∧ h < j := by omega
      rw [hh]
      clear hh
      have hhn : h < n := by omega
      have hhi : (h : Int) < (n : Int) := by omega
      have hh0 : (0 : Int) ≤ (h : Int) := by omega
      have hl' : h < l.length := by rw [Hln.out]; exact hhn
      have Hmono := Lib.hid (fun (hx : ordF l[h] c < 0) k (hk : k < l.length) (hkh : k < h + 1) => show ordF l[k] c < 0 by
        rcases Nat.lt_or_ge k h with h1 | h1
        · exact HM.out k h hl' h1 hx
        · obtain rfl : k = h := by omega
          exact hx)
      have Hmon2 := Lib.hid (fun (hx : ¬ ordF l[h] c < 0) k (hk : k < l.length) (hkh : h ≤ k) => show 0 ≤ ordF l[k] c by
        rcases Nat.lt_or_ge h k with h1 | h1
        · exact Int.not_lt.1 fun e => hx (HM.out h k hk h1 e)
        · obtain rfl : k = h := by omega
          omega)
      obtain ⟨b, off, rfl, hr⟩ := (hv.up hB).rec_at (cells := ctC) (sz := 5) (fun _ => rfl) hhn hl'
      generalize l[h] = x at *
      obtain ⟨r, hr0⟩ : ∃ r, r = ordF x c := ⟨_, rfl⟩
      have hord := fun w => order_c x c w
      rw [← hr0] at hord Hmono Hmon2
      clear hr0
      refine wp_region_pi [(0, false), (1, false), (2, false), (3, false), (4, false), (5, false), (6, true), (7, false)] (by kernel_rfl) (by kernel_rfl) (by kernel_rfl) rfl (fun _ _ d _ _ h => by cases d <;> exact h) (fun Wd hBd => ?_)
      try simp only [Act.put, List.getElem_toArray, List.getElem_cons_zero, List.getElem_cons_succ, List.setIfInBounds_toArray, List.set_cons_zero, List.set_cons_succ]
      have hr1 := rangeAt_up hBd hr
      have K1 := K.below hBd
      refine pi_q (v := ?_) rfl (by rfl) ?_ ?_
      rotate_left
      · intro w' hBw'
        first | (go_simp; done) | (go_simp; with_reducible rfl)
      try simp only [Act.put, List.getElem_toArray, List.getElem_cons_zero, List.getElem_cons_succ, List.setIfInBounds_toArray, List.set_cons_zero, List.set_cons_succ]
      refine pi_q (v := ?_) rfl (by rfl) ?_ ?_
      rotate_left
      · intro w' hBw'
        first | (go_simp; done) | (go_simp; with_reducible rfl)
      try simp only [Act.put, List.getElem_toArray, List.getElem_cons_zero, List.getElem_cons_succ, List.setIfInBounds_toArray, List.set_cons_zero, List.set_cons_succ]
      refine pi_q (v := ?_) rfl (by rfl) ?_ ?_
      rotate_left
      · intro w' hBw'
        first | (go_simp; done) | (go_simp; with_reducible rfl)
      try simp only [Act.put, List.getElem_toArray, List.getElem_cons_zero, List.getElem_cons_succ, List.setIfInBounds_toArray, List.set_cons_zero, List.set_cons_succ]
      refine pi_q (v := ?_) rfl (by rfl) ?_ ?_
      rotate_left
      · intro w' hBw'
        first | (go_simp; done) | (go_simp; with_reducible rfl)
      try simp only [Act.put, List.getElem_toArray, List.getElem_cons_zero, List.getElem_cons_succ, List.setIfInBounds_toArray, List.set_cons_zero, List.set_cons_succ]
      refine pi_load rfl (by rfl) 27 (.tmp 27) rfl b (off + h * 5) rfl (ctC x) _ hr1 Try.underlying27 rfl (by kernel_rfl) ?_
      try simp only [Act.put, List.getElem_toArray, List.getElem_cons_zero, List.getElem_cons_succ, List.setIfInBounds_toArray, List.set_cons_zero, List.set_cons_succ]
      refine pi_load rfl (by rfl) 27 (.tmp 4) rfl w.heap.size 0 rfl (ctC c) _ K1.range Try.underlying27 rfl (by kernel_rfl) ?_
      try simp only [Act.put, List.getElem_toArray, List.getElem_cons_zero, List.getElem_cons_succ, List.setIfInBounds_toArray, List.set_cons_zero, List.set_cons_succ]
      refine pi_c rfl (by rfl) (fun K hK => ?_)
      go_simp
      refine (hord _).mono ?_
      rintro en w1 ⟨rfl, hb⟩
      go_wp2_with fail
      refine hK.out _ _ hb ?_
      clear hK K
      try simp only [Act.put, List.getElem_toArray, List.getElem_cons_zero, List.getElem_cons_succ, List.setIfInBounds_toArray, List.set_cons_zero, List.set_cons_succ]
      have K2 := K1.below hb
      have HB2 := Lib.hid (below_up (below_up hB hBd) hb)
      refine pi_q (v := ?_) rfl (by rfl) ?_ ?_
      rotate_left
      · intro w' hBw'
        first | (go_simp; done) | (go_simp; with_reducible rfl)
      try simp only [Act.put, List.getElem_toArray, List.getElem_cons_zero, List.getElem_cons_succ, List.setIfInBounds_toArray, List.set_cons_zero, List.set_cons_succ]
      refine pi_nil ?_
      clear hr hr1 K1 K hB
      by_cases hx : r < 0
      · go_wp2
        go_roundw
        case rel => exact ⟨h + 1, j, by go_num, rfl, by omega, hjn, Lib.hid (Hmono.out hx), Hhi, K2, HB2.out⟩
        case measure => simp [intOf]; omega
      · have hx0 : 0 ≤ r := by omega
        go_wp2
        go_roundw
        case rel => exact ⟨i, h, rfl, by go_num, by omega, by omega, Hlo, Lib.hid (by first | exact Hmon2.out hx0 | exact Hmon2.out hx), K2, HB2.out⟩
        case measure => simp [intOf]; omega
    · obtain rfl : i = j := by omega
      have hpos := posF_eq (L := l) (c := c) (i := i) (by rw [Hln.out]; exact hjn) (fun k hk h => Hlo.out k hk h) (fun k hk h => Int.not_lt.2 (Hhi.out k hk h))
      have HRi := Lib.hid (HR.out.trans hpos)
      clear hpos
      rcases Nat.lt_or_ge i n with hin | hin
      · have hii : (i : Int) < (n : Int) := by omega
        have hi0 : (0 : Int) ≤ (i : Int) := by omega
        have hl' : i < l.length := by rw [Hln.out]; exact hin
        obtain ⟨b, off, rfl, hr⟩ := (hv.up hB).rec_at (cells := ctC) (sz := 5) (fun _ => rfl) hin hl'
        generalize l[i] = x at *
        obtain ⟨r, hr0⟩ : ∃ r, r = ordF x c := ⟨_, rfl⟩
        have hord := fun w => order_c x c w
        rw [← hr0] at hord
        clear hr0
        go_wp2
        refine wp_region_pi [(0, false), (1, false), (2, false), (3, false), (4, false), (5, false), (6, false), (7, false), (8, false), (9, false), (10, false), (11, true), (12, false), (13, false), (14, false), (15, false)] (by kernel_rfl) (by kernel_rfl) (by kernel_rfl) rfl (fun _ _ d _ _ h => by cases d <;> exact h) (fun Wd hBd => ?_)
        try simp only [Act.put, List.getElem_toArray, List.getElem_cons_zero, List.getElem_cons_succ, List.setIfInBounds_toArray, List.set_cons_zero, List.set_cons_succ]
        have hr1 := rangeAt_up hBd hr
        have K1 := K.below hBd
        refine pi_q (v := ?_) rfl (by rfl) ?_ ?_
        rotate_left
        · intro w' hBw'
          first | (go_simp; done) | (go_simp; with_reducible rfl)
        try simp only [Act.put, List.getElem_toArray, List.getElem_cons_zero, List.getElem_cons_succ, List.setIfInBounds_toArray, List.set_cons_zero, List.set_cons_succ]
        refine pi_q (v := ?_) rfl (by rfl) ?_ ?_
        rotate_left
        · intro w' hBw'
          first | (go_simp; done) | (go_simp; with_reducible rfl)
        try simp only [Act.put, List.getElem_toArray, List.getElem_cons_zero, List.getElem_cons_succ, List.setIfInBounds_toArray, List.set_cons_zero, List.set_cons_succ]
        refine pi_q (v := ?_) rfl (by rfl) ?_ ?_
        rotate_left
        · intro w' hBw'
          first | (go_simp; done) | (go_simp; with_reducible rfl)
        try simp only [Act.put, List.getElem_toArray, List.getElem_cons_zero, List.getElem_cons_succ, List.setIfInBounds_toArray, List.set_cons_zero, List.set_cons_succ]
        refine pi_q (v := ?_) rfl (by rfl) ?_ ?_
        rotate_left
        · intro w' hBw'
          first | (go_simp; done) | (go_simp; with_reducible rfl)
        try simp only [Act.put, List.getElem_toArray, List.getElem_cons_zero, List.getElem_cons_succ, List.setIfInBounds_toArray, List.set_cons_zero, List.set_cons_succ]
        refine pi_q (v := ?_) rfl (by rfl) ?_ ?_
        rotate_left
        · intro w' hBw'
          first | (go_simp; done) | (go_simp; with_reducible rfl)
        try simp only [Act.put, List.getElem_toArray, List.getElem_cons_zero, List.getElem_cons_succ, List.setIfInBounds_toArray, List.set_cons_zero, List.set_cons_succ]
        refine pi_q (v := ?_) rfl (by rfl) ?_ ?_
        rotate_left
        · intro w' hBw'
          first | (go_simp; done) | (go_simp; with_reducible rfl)
        try simp only [Act.put, List.getElem_toArray, List.getElem_cons_zero, List.getElem_cons_succ, List.setIfInBounds_toArray, List.set_cons_zero, List.set_cons_succ]
        refine pi_q (v := ?_) rfl (by rfl) ?_ ?_
        rotate_left
        · intro w' hBw'
          first | (go_simp; done) | (go_simp; with_reducible rfl)
        try simp only [Act.put, List.getElem_toArray, List.getElem_cons_zero, List.getElem_cons_succ, List.setIfInBounds_toArray, List.set_cons_zero, List.set_cons_succ]
        refine pi_q (v := ?_) rfl (by rfl) ?_ ?_
        rotate_left
        · intro w' hBw'
          first | (go_simp; done) | (go_simp; with_reducible rfl)
        try simp only [Act.put, List.getElem_toArray, List.getElem_cons_zero, List.getElem_cons_succ, List.setIfInBounds_toArray, List.set_cons_zero, List.set_cons_succ]
        refine pi_q (v := ?_) rfl (by rfl) ?_ ?_
        rotate_left
        · intro w' hBw'
          first | (go_simp; done) | (go_simp; with_reducible rfl)
        try simp only [Act.put, List.getElem_toArray, List.getElem_cons_zero, List.getElem_cons_succ, List.setIfInBounds_toArray, List.set_cons_zero, List.set_cons_succ]
        refine pi_load rfl (by rfl) 27 (.tmp 43) rfl b (off + i * 5) rfl (ctC x) _ hr1 Try.underlying27 rfl (by kernel_rfl) ?_
        try simp only [Act.put, List.getElem_toArray, List.getElem_cons_zero, List.getElem_cons_succ, List.setIfInBounds_toArray, List.set_cons_zero, List.set_cons_succ]
        refine pi_load rfl (by rfl) 27 (.tmp 4) rfl w.heap.size 0 rfl (ctC c) _ K1.range Try.underlying27 rfl (by kernel_rfl) ?_
        try simp only [Act.put, List.getElem_toArray, List.getElem_cons_zero, List.getElem_cons_succ, List.setIfInBounds_toArray, List.set_cons_zero, List.set_cons_succ]
        refine pi_c rfl (by rfl) (fun K hK => ?_)
        go_simp
        refine (hord _).mono ?_
        rintro en w1 ⟨rfl, hb⟩
        go_wp2_with fail
        refine hK.out _ _ hb ?_
        clear hK K
        try simp only [Act.put, List.getElem_toArray, List.getElem_cons_zero, List.getElem_cons_succ, List.setIfInBounds_toArray, List.set_cons_zero, List.set_cons_succ]
        have HB2 := Lib.hid (below_up (below_up hB hBd) hb)
        refine pi_q (v := ?_) rfl (by rfl) ?_ ?_
        rotate_left
        · intro w' hBw'
          first | (go_simp; done) | (go_simp; with_reducible rfl)
        try simp only [Act.put, List.getElem_toArray, List.getElem_cons_zero, List.getElem_cons_succ, List.setIfInBounds_toArray, List.set_cons_zero, List.set_cons_succ]
        refine pi_q (v := ?_) rfl (by rfl) ?_ ?_
        rotate_left
        · intro w' hBw'
          first | (go_simp; done) | (go_simp; with_reducible rfl)
        try simp only [Act.put, List.getElem_toArray, List.getElem_cons_zero, List.getElem_cons_succ, List.setIfInBounds_toArray, List.set_cons_zero, List.set_cons_succ]
        refine pi_q (v := ?_) rfl (by rfl) ?_ ?_
        rotate_left
        · intro w' hBw'
          first | (go_simp; done) | (go_simp; with_reducible rfl)
        try simp only [Act.put, List.getElem_toArray, List.getElem_cons_zero, List.getElem_cons_succ, List.setIfInBounds_toArray, List.set_cons_zero, List.set_cons_succ]
        refine pi_q (v := ?_) rfl (by rfl) ?_ ?_
        rotate_left
        · intro w' hBw'
          first | (go_simp; done) | (go_simp; with_reducible rfl)
        try simp only [Act.put, List.getElem_toArray, List.getElem_cons_zero, List.getElem_cons_succ, List.setIfInBounds_toArray, List.set_cons_zero, List.set_cons_succ]
        refine pi_nil ?_
        clear hr hr1 K1 K hB
        go_wp2
        have HRj := HRi.out
        subst HRj
        exact bodyPost_ret (v := .tuple #[.int .i64 R, .bool _]) (by simp [results, Try.results38, go_sem]; rfl) rfl ⟨_, rfl, HB2.out⟩
      · have hii : ¬ (i : Int) < (n : Int) := by omega
        have hin2 : ¬ i < n := by omega
        go_wp2
        refine wp_region_pi [(0, false), (1, false), (2, false), (3, false), (4, false), (5, false), (6, false), (7, false), (8, false), (9, false), (10, false), (11, false), (12, false), (13, false), (14, false), (15, false)] (by kernel_rfl) (by kernel_rfl) (by kernel_rfl) rfl (fun _ _ d _ _ h => by cases d <;> exact h) (fun Wd hBd => ?_)
        try simp only [Act.put, List.getElem_toArray, List.getElem_cons_zero, List.getElem_cons_succ, List.setIfInBounds_toArray, List.set_cons_zero, List.set_cons_succ]
        refine pi_q (v := ?_) rfl (by rfl) ?_ ?_
        rotate_left
        · intro w' hBw'
          first | (go_simp; done) | (go_simp; with_reducible rfl)
        try simp only [Act.put, List.getElem_toArray, List.getElem_cons_zero, List.getElem_cons_succ, List.setIfInBounds_toArray, List.set_cons_zero, List.set_cons_succ]
        refine pi_q (v := ?_) rfl (by rfl) ?_ ?_
        rotate_left
        · intro w' hBw'
          first | (go_simp; done) | (go_simp; with_reducible rfl)
        try simp only [Act.put, List.getElem_toArray, List.getElem_cons_zero, List.getElem_cons_succ, List.setIfInBounds_toArray, List.set_cons_zero, List.set_cons_succ]
        refine pi_q (v := ?_) rfl (by rfl) ?_ ?_
        rotate_left
        · intro w' hBw'
          first | (go_simp; done) | (go_simp; with_reducible rfl)
        try simp only [Act.put, List.getElem_toArray, List.getElem_cons_zero, List.getElem_cons_succ, List.setIfInBounds_toArray, List.set_cons_zero, List.set_cons_succ]
        refine pi_q (v := ?_) rfl (by rfl) ?_ ?_
        rotate_left
        · intro w' hBw'
          first | (go_simp; done) | (go_simp; with_reducible rfl)
        try simp only [Act.put, List.getElem_toArray, List.getElem_cons_zero, List.getElem_cons_succ, List.setIfInBounds_toArray, List.set_cons_zero, List.set_cons_succ]
        refine pi_q (v := ?_) rfl (by rfl) ?_ ?_
        rotate_left
        · intro w' hBw'
          first | (go_simp; done) | (go_simp; with_reducible rfl)
        try simp only [Act.put, List.getElem_toArray, List.getElem_cons_zero, List.getElem_cons_succ, List.setIfInBounds_toArray, List.set_cons_zero, List.set_cons_succ]
        refine pi_no rfl (by rfl) ?_
        try simp only [Act.put, List.getElem_toArray, List.getElem_cons_zero, List.getElem_cons_succ, List.setIfInBounds_toArray, List.set_cons_zero, List.set_cons_succ]
        refine pi_no rfl (by rfl) ?_
        try simp only [Act.put, List.getElem_toArray, List.getElem_cons_zero, List.getElem_cons_succ, List.setIfInBounds_toArray, List.set_cons_zero, List.set_cons_succ]
        refine pi_no rfl (by rfl) ?_
        try simp only [Act.put, List.getElem_toArray, List.getElem_cons_zero, List.getElem_cons_succ, List.setIfInBounds_toArray, List.set_cons_zero, List.set_cons_succ]
        refine pi_no rfl (by rfl) ?_
        try simp only [Act.put, List.getElem_toArray, List.getElem_cons_zero, List.getElem_cons_succ, List.setIfInBounds_toArray, List.set_cons_zero, List.set_cons_succ]
        refine pi_no rfl (by rfl) ?_
        try simp only [Act.put, List.getElem_toArray, List.getElem_cons_zero, List.getElem_cons_succ, List.setIfInBounds_toArray, List.set_cons_zero, List.set_cons_succ]
        refine pi_no rfl (by rfl) ?_
        try simp only [Act.put, List.getElem_toArray, List.getElem_cons_zero, List.getElem_cons_succ, List.setIfInBounds_toArray, List.set_cons_zero, List.set_cons_succ]
        refine pi_no rfl (by rfl) ?_
        try simp only [Act.put, List.getElem_toArray, List.getElem_cons_zero, List.getElem_cons_succ, List.setIfInBounds_toArray, List.set_cons_zero, List.set_cons_succ]
        refine pi_no rfl (by rfl) ?_
        try simp only [Act.put, List.getElem_toArray, List.getElem_cons_zero, List.getElem_cons_succ, List.setIfInBounds_toArray, List.set_cons_zero, List.set_cons_succ]
        refine pi_q (v := ?_) rfl (by rfl) ?_ ?_
        rotate_left
        · intro w' hBw'
          first | (go_simp; done) | (go_simp; with_reducible rfl)
        try simp only [Act.put, List.getElem_toArray, List.getElem_cons_zero, List.getElem_cons_succ, List.setIfInBounds_toArray, List.set_cons_zero, List.set_cons_succ]
        refine pi_q (v := ?_) rfl (by rfl) ?_ ?_
        rotate_left
        · intro w' hBw'
          first | (go_simp; done) | (go_simp; with_reducible rfl)
        try simp only [Act.put, List.getElem_toArray, List.getElem_cons_zero, List.getElem_cons_succ, List.setIfInBounds_toArray, List.set_cons_zero, List.set_cons_succ]
        refine pi_q (v := ?_) rfl (by rfl) ?_ ?_
        rotate_left
        · intro w' hBw'
          first | (go_simp; done) | (go_simp; with_reducible rfl)
        try simp only [Act.put, List.getElem_toArray, List.getElem_cons_zero, List.getElem_cons_succ, List.setIfInBounds_toArray, List.set_cons_zero, List.set_cons_succ]
        refine pi_nil ?_
        go_wp2
        have HRj := HRi.out
        subst HRj
        exact bodyPost_ret (v := .tuple #[.int .i64 R, .bool false]) (by simp [results, Try.results38, go_sem]) rfl ⟨_, rfl, below_up hB hBd⟩
end Go.Proofs.Ytgbpdchdcbnoaaa
