/-
  Contracts of the reference's Seal and Open, and of the law's num.
-/
import Derived.Test.YtinohligpncpiaaSumF
namespace Go.Proofs.Ytinohligpncpiaa
open Go.RowKit
set_option linter.unusedSimpArgs false
set_option linter.unusedVariables false

theorem sumNum_c (n : Int) (w : World) : Calls Try.prog 10 #[.int .i64 n] w fun e w' => e = .returned (.int .i64 n) ∧ w = w' := by
  go_enter Try.func10, Try.ntmps10
  go_wp2
  go_ret
  exact ⟨rfl, rfl⟩

namespace Sum
theorem sealB_0 (l : List UInt8) : sealB 0 l = l := by simp [sealB, Oct.putB, wd, Oct.okW]
end Sum

theorem refSeal_c (k : Nat) (hk : k ≤ 2) (l : List UInt8) (a : Option Addr) (c n : Nat) (w : World) (hv : Sl w 1 (.slice a n c) n (by8 l)) (hn : n ≤ 140737488351240) :
    Calls Try.prog 16 #[.int .i64 k, .slice a n c] w fun e w' => ∃ v', e = .returned v' ∧ w'.ownsRow w.heap.size 5 1 v' (Sum.sealB k l).length (by8 (Sum.sealB k l)) ∧ Below w.heap.size w w' := by
  have hln := hv.n_len
  have hsl := Sum.sumN_lt k l
  by_cases h0 : k = 0
  · subst h0
    have Hln := Lib.hid hln
    clear hln
    go_enter Try.func16, Try.ntmps16
    go_wp2_with (at_builtin; refine wpList_app rfl _ _ 23 rfl slT_u8 w.heap.size rfl (World.ownsRow_lit w #[] 0 (Nat.le_refl _) (by decide) rfl) rfl (hv.up (below_alloc _ _)) (one_by8 _) (by simp [maxLen]; omega) (by omega) (by simp) ?_; intro v' w1 hown hgrow _)
    go_ret
    rw [Sum.sealB_0, Hln.out]
    exact ⟨v', rfl, by simpa using hown, grown_below (below_alloc _ _) hgrow (fun k hk => by have : w.heap.size = k := Option.some.inj hk; omega)⟩
  · have hb : ((k : Int) == 0) = false := by simp; omega
    have hpl : (Oct.putB (Sum.sumN k l) (Sum.wd k)).length ≤ 8 := Sum.putB_le _ _
    clear h0
    go_enter Try.func16, Try.ntmps16
    go_wp2_with fail
    refine (refOf_c k hk l _ n _ hv (by omega)).mono ?_
    rintro e w1 ⟨rfl, hb1⟩
    go_wp2_with fail
    refine (refWidth_c k hk _).mono ?_
    rintro e w2 ⟨rfl, rfl⟩
    go_wp2_with fail
    refine (putR_c _ _ _ (by omega) (by omega)).mono ?_
    rintro e w3 ⟨v3, rfl, ho3, hb3⟩
    obtain ⟨a3, c3, rfl⟩ := own_slice ho3
    have s3 := Sl.of_own ho3
    have hB3 := below_up hb1 hb3
    have hv3 := hv.up hB3
    have HS := Lib.hid (show by8 l ++ by8 (Oct.putB (Sum.sumN k l) (Sum.wd k)) = by8 (Sum.sealB k l) by rw [← by8_app]; rfl)
    have HL := Lib.hid (show (Sum.sealB k l).length = n + (Oct.putB (Sum.sumN k l) (Sum.wd k)).length by unfold Sum.sealB; rw [List.length_append, hln])
    clear ho3
    generalize hPB : Oct.putB (Sum.sumN k l) (Sum.wd k) = pb at *
    have HPB := Lib.hid hPB
    clear hPB hln hsl
    go_wp2_with (first
      | (at_builtin; refine wpList_app_at rfl (.tmp 22) (.tmp 23) 23 rfl slT_u8 w3.heap.size rfl (World.ownsRow_lit w3 #[] 0 (Nat.le_refl _) (by decide) rfl) rfl (hv3.up (below_alloc _ _)) (one_by8 _) (by simp [maxLen]; omega) (by omega) (by simp) ?_; intro v4 w4 hown4 hgrow4 _ _; simp only [Nat.zero_add, List.nil_append] at hown4; have hb4 := grown_below (below_alloc w3 _) hgrow4 (fun k hk => by have : w3.heap.size = k := Option.some.inj hk; omega); have s4 := s3.up hb4; obtain ⟨a4, c4, rfl⟩ := own_slice hown4)
      | (at_builtin; refine wpList_app_at rfl (.tmp 24) (.tmp 25) 23 rfl slT_u8 w3.heap.size rfl hown4 rfl s4 (one_by8 _) (by simp [maxLen]; omega) (by omega) hb4.size ?_; intro v5 w5 hown5 hgrow5 _ _))
    go_ret
    have hb5 : Below w.heap.size w w5 := (below_up hB3 hb4).grown hgrow5 (below_up hB3 hb4).size (fun r hr => by have := (own_of_some hown4 hr).1; have := hB3.size; omega)
    refine ⟨v5, rfl, ?_, hb5⟩
    have h5 : w5.ownsRow w3.heap.size 5 1 v5 (Sum.sealB k l).length (by8 (Sum.sealB k l)) := by
      rw [HL.out, ← HS.out]
      simpa using hown5
    exact own_down h5 hB3.size

theorem refOpen_bad (k : Int) (hk : k < 0 ∨ 2 < k) (a : Option Addr) (c n : Nat) (w : World) :
    Calls Try.prog 15 #[.int .i64 k, .slice a n c] w (Ret (.tuple #[.slice none 0 0, .int .i64 2]) w) := by
  have hd : (decide (0 ≤ k) && decide (k ≤ 2)) = false := by rw [Bool.and_eq_false_iff]; simp; omega
  have Hd := Lib.hid hd
  clear hd
  go_enter Try.func15, Try.ntmps15
  go_wp2_with (go_at_call 9; refine (refKind_c k _).mono ?_; rw [Hd.out]; rintro e w1 ⟨rfl, rfl⟩)
  go_ret2
  exact ⟨rfl, Below.refl _ _⟩

theorem refOpen_all (k : Nat) (hk : k ≤ 2) (l : List UInt8) (a : Option Addr) (c n : Nat) (w : World) (hv : Sl w 1 (.slice a n c) n (by8 l)) (hn : n ≤ 140737488351240) :
    Calls Try.prog 15 #[.int .i64 k, .slice a n c] w (OpenPost k l w) := by
  have hln := hv.n_len
  have hd : (decide (0 ≤ (k : Int)) && decide ((k : Int) ≤ 2)) = true := by simp; omega
  have hw4 : Sum.wd k ≤ 4 := by unfold Sum.wd; split <;> decide
  have Hd := Lib.hid hd
  clear hd
  rcases Nat.lt_or_ge n (Sum.wd k) with hs | hs
  · have hob : Sum.openB k l = false := by unfold Sum.openB; rw [Bool.and_eq_false_iff]; left; simp; omega
    have Hob := Lib.hid hob
    clear hob
    have hlt : decide ((n : Int) - (Sum.wd k : Int) < 0) = true := by simp; omega
    have hneg : (n : Int) - (Sum.wd k : Int) < 0 := by omega
    go_enter Try.func15, Try.ntmps15
    go_wp2_with (first
      | (go_at_call 9; refine (refKind_c k _).mono ?_; rw [Hd.out]; rintro e w1 ⟨rfl, rfl⟩)
      | (go_at_call 12; refine (refWidth_c k hk _).mono ?_; rintro e w1 ⟨rfl, rfl⟩))
    refine wp_region_pi [(0, false), (1, false), (2, false), (3, false), (4, false), (5, false), (6, false), (7, false), (8, false), (9, false), (10, false), (11, false), (12, false)] (by kernel_rfl) (by kernel_rfl) (by kernel_rfl) rfl (fun _ _ d _ _ h => by cases d <;> exact h) (fun Wd hBd => ?_)
    try simp only [Act.put, List.getElem_toArray, List.getElem_cons_zero, List.getElem_cons_succ, List.setIfInBounds_toArray, List.set_cons_zero, List.set_cons_succ]
    refine pi_q (v := ?_) rfl (by rfl) ?_ ?_
    rotate_left
    · intro w' hBw'
      first | (go_simp; done) | (go_simp; with_reducible rfl)
    try simp only [Act.put, List.getElem_toArray, List.getElem_cons_zero, List.getElem_cons_succ, List.setIfInBounds_toArray, List.set_cons_zero, List.set_cons_succ]
    refine pi_q (v := ?_) rfl (by rfl) ?_ ?_
    rotate_left
    · intro w' hBw'
      first | (go_simp; done) | (go_simp; with_reducible rfl)
    try simp only [Act.put, List.getElem_toArray, List.getElem_cons_zero, List.getElem_cons_succ, List.setIfInBounds_toArray, List.set_cons_zero, List.set_cons_succ]
    refine pi_q (v := ?_) rfl (by rfl) ?_ ?_
    rotate_left
    · intro w' hBw'
      first | (go_simp; done) | (go_simp; with_reducible rfl)
    try simp only [Act.put, List.getElem_toArray, List.getElem_cons_zero, List.getElem_cons_succ, List.setIfInBounds_toArray, List.set_cons_zero, List.set_cons_succ]
    refine pi_no rfl (by rfl) ?_
    try simp only [Act.put, List.getElem_toArray, List.getElem_cons_zero, List.getElem_cons_succ, List.setIfInBounds_toArray, List.set_cons_zero, List.set_cons_succ]
    refine pi_no rfl (by rfl) ?_
    try simp only [Act.put, List.getElem_toArray, List.getElem_cons_zero, List.getElem_cons_succ, List.setIfInBounds_toArray, List.set_cons_zero, List.set_cons_succ]
    refine pi_no rfl (by rfl) ?_
    try simp only [Act.put, List.getElem_toArray, List.getElem_cons_zero, List.getElem_cons_succ, List.setIfInBounds_toArray, List.set_cons_zero, List.set_cons_succ]
    refine pi_no rfl (by rfl) ?_
    try simp only [Act.put, List.getElem_toArray, List.getElem_cons_zero, List.getElem_cons_succ, List.setIfInBounds_toArray, List.set_cons_zero, List.set_cons_succ]
    refine pi_no rfl (by rfl) ?_
    try simp only [Act.put, List.getElem_toArray, List.getElem_cons_zero, List.getElem_cons_succ, List.setIfInBounds_toArray, List.set_cons_zero, List.set_cons_succ]
    refine pi_no rfl (by rfl) ?_
    try simp only [Act.put, List.getElem_toArray, List.getElem_cons_zero, List.getElem_cons_succ, List.setIfInBounds_toArray, List.set_cons_zero, List.set_cons_succ]
    refine pi_no rfl (by rfl) ?_
    try simp only [Act.put, List.getElem_toArray, List.getElem_cons_zero, List.getElem_cons_succ, List.setIfInBounds_toArray, List.set_cons_zero, List.set_cons_succ]
    refine pi_no rfl (by rfl) ?_
    try simp only [Act.put, List.getElem_toArray, List.getElem_cons_zero, List.getElem_cons_succ, List.setIfInBounds_toArray, List.set_cons_zero, List.set_cons_succ]
    refine pi_no rfl (by rfl) ?_
    try simp only [Act.put, List.getElem_toArray, List.getElem_cons_zero, List.getElem_cons_succ, List.setIfInBounds_toArray, List.set_cons_zero, List.set_cons_succ]
    refine pi_q (v := ?_) rfl (by rfl) ?_ ?_
    rotate_left
    · intro w' hBw'
      first | (go_simp; done) | (go_simp; with_reducible rfl)
    try simp only [Act.put, List.getElem_toArray, List.getElem_cons_zero, List.getElem_cons_succ, List.setIfInBounds_toArray, List.set_cons_zero, List.set_cons_succ]
    refine pi_nil ?_
    go_wp2
    go_ret2
    exact ⟨hBd, .inr ⟨Hob.out, rfl⟩⟩
  · have hcut : l.take (n - Sum.wd k) = Sum.cutB k l := by unfold Sum.cutB; rw [hln]
    have hcl : (Sum.cutB k l).length = n - Sum.wd k := by unfold Sum.cutB; rw [List.length_take]; omega
    have hnn : ¬ (n : Int) - (Sum.wd k : Int) < 0 := by omega
    have hnb : decide ((n : Int) - (Sum.wd k : Int) < 0) = false := by simp; omega
    have hsub : (n : Int) - (Sum.wd k : Int) = ((n - Sum.wd k : Nat) : Int) := by omega
    obtain ⟨a3, h3, h4⟩ := cut_h slT_u8 hv (n - Sum.wd k) (Nat.sub_le _ _)
    rw [Nat.mul_one, ← by8_take, hcut] at h4
    have hc1 : ∀ w', (Instr.slice 23 (.slice a n c) none (some (.int .i64 ((n : Int) - (Sum.wd k : Int)))) none).run Try.prog w' = .ok (.slice a3 (n - Sum.wd k) c) w' := fun w' => by rw [hsub]; exact h3 _ w'
    have Hln := Lib.hid hln
    have Hcl := Lib.hid hcl
    obtain ⟨l', hl'⟩ : ∃ l', Sum.cutB k l = l' := ⟨_, rfl⟩
    have Hl' := Lib.hid hl'
    have Hsub := Lib.hid hsub
    rw [hl'] at h4
    clear hl' hcut h3 hsub hln hcl
    go_enter Try.func15, Try.ntmps15
    go_wp2_with (first
      | (go_at_call 9; refine (refKind_c k _).mono ?_; rw [Hd.out]; rintro e w1 ⟨rfl, rfl⟩)
      | (go_at_call 12; refine (refWidth_c k hk _).mono ?_; rintro e w1 ⟨rfl, rfl⟩))
    have hv1 := hv
    have hcs := h4
    have hmn : n - Sum.wd k ≤ n := Nat.sub_le _ _
    generalize n - Sum.wd k = m at *
    refine wp_region_pi [(0, false), (1, false), (2, false), (3, false), (4, false), (5, false), (6, false), (9, false), (10, false), (7, true), (8, false), (11, false), (12, false)] (by kernel_rfl) (by kernel_rfl) (by kernel_rfl) rfl (fun _ _ d _ _ h => by cases d <;> exact h) (fun Wd hBd => ?_)
    try simp only [Act.put, List.getElem_toArray, List.getElem_cons_zero, List.getElem_cons_succ, List.setIfInBounds_toArray, List.set_cons_zero, List.set_cons_succ]
    have t1 : ∀ w', Below Wd.heap.size Wd w' → (convert 23 9 (.slice a n c)).run Try.prog w' = .ok (.string ⟨l.toArray⟩) w' := fun w' h => run_str Try.underlying23 Try.underlying5 Try.underlying9 (hv1.up (below_up hBd h))
    refine pi_q (v := ?_) rfl (by rfl) ?_ ?_
    rotate_left
    · intro w' hBw'
      first | (go_simp; done) | (go_simp; with_reducible rfl)
    try simp only [Act.put, List.getElem_toArray, List.getElem_cons_zero, List.getElem_cons_succ, List.setIfInBounds_toArray, List.set_cons_zero, List.set_cons_succ]
    refine pi_q (v := ?_) rfl (by rfl) ?_ ?_
    rotate_left
    · intro w' hBw'
      first | (go_simp; done) | (go_simp; with_reducible rfl)
    try simp only [Act.put, List.getElem_toArray, List.getElem_cons_zero, List.getElem_cons_succ, List.setIfInBounds_toArray, List.set_cons_zero, List.set_cons_succ]
    refine pi_q (v := ?_) rfl (by rfl) ?_ ?_
    rotate_left
    · intro w' hBw'
      first | (go_simp; done) | (go_simp; with_reducible rfl)
    try simp only [Act.put, List.getElem_toArray, List.getElem_cons_zero, List.getElem_cons_succ, List.setIfInBounds_toArray, List.set_cons_zero, List.set_cons_succ]
    refine pi_q (v := ?_) rfl (by rfl) ?_ ?_
    rotate_left
    · intro w' hBw'
      first | (go_simp; done) | (go_simp; with_reducible rfl)
    try simp only [Act.put, List.getElem_toArray, List.getElem_cons_zero, List.getElem_cons_succ, List.setIfInBounds_toArray, List.set_cons_zero, List.set_cons_succ]
    refine pi_q (v := ?_) rfl (by rfl) ?_ ?_
    rotate_left
    · intro w' hBw'
      first | (go_simp; done) | (go_simp; with_reducible rfl)
    try simp only [Act.put, List.getElem_toArray, List.getElem_cons_zero, List.getElem_cons_succ, List.setIfInBounds_toArray, List.set_cons_zero, List.set_cons_succ]
    refine pi_q (v := ?_) rfl (by rfl) ?_ ?_
    rotate_left
    · intro w' hBw'
      first | (go_simp; done) | (go_simp; with_reducible rfl)
    try simp only [Act.put, List.getElem_toArray, List.getElem_cons_zero, List.getElem_cons_succ, List.setIfInBounds_toArray, List.set_cons_zero, List.set_cons_succ]
    refine pi_q (v := ?_) rfl (by rfl) ?_ ?_
    rotate_left
    · intro w' hBw'
      first | (go_simp; done) | (go_simp; with_reducible rfl)
    try simp only [Act.put, List.getElem_toArray, List.getElem_cons_zero, List.getElem_cons_succ, List.setIfInBounds_toArray, List.set_cons_zero, List.set_cons_succ]
    refine pi_q (v := ?_) rfl (by rfl) ?_ ?_
    rotate_left
    · intro w' hBw'
      first | (go_simp; done) | (go_simp; with_reducible rfl)
    try simp only [Act.put, List.getElem_toArray, List.getElem_cons_zero, List.getElem_cons_succ, List.setIfInBounds_toArray, List.set_cons_zero, List.set_cons_succ]
    refine pi_q (v := ?_) rfl (by rfl) ?_ ?_
    rotate_left
    · intro w' hBw'
      first | (go_simp; done) | (go_simp; with_reducible rfl)
    try simp only [Act.put, List.getElem_toArray, List.getElem_cons_zero, List.getElem_cons_succ, List.setIfInBounds_toArray, List.set_cons_zero, List.set_cons_succ]
    refine pi_c rfl (by rfl) (fun K hK => ?_)
    go_simp
    refine (refSeal_c k hk l' _ _ _ _ (hcs.up hBd) (by omega)).mono ?_
    rintro e w4 ⟨v4, rfl, ho4, hb4⟩
    have hB4 := below_up hBd hb4
    have s4 := Sl.of_own ho4
    obtain ⟨a4, c4, rfl⟩ := own_slice ho4
    have t4 : ∀ w', Below w4.heap.size w4 w' → (convert 23 9 (.slice a4 (Sum.sealB k l').length c4)).run Try.prog w' = .ok (.string ⟨(Sum.sealB k l').toArray⟩) w' := fun w' h => run_str Try.underlying23 Try.underlying5 Try.underlying9 (s4.up h)
    clear ho4
    go_wp2_with fail
    refine hK.out _ _ hb4 ?_
    clear hK K
    try simp only [Act.put, List.getElem_toArray, List.getElem_cons_zero, List.getElem_cons_succ, List.setIfInBounds_toArray, List.set_cons_zero, List.set_cons_succ]
    refine pi_q (v := ?_) rfl (by rfl) ?_ ?_
    rotate_left
    · intro w' hBw'
      first | (go_simp; done) | (go_simp; with_reducible rfl)
    try simp only [Act.put, List.getElem_toArray, List.getElem_cons_zero, List.getElem_cons_succ, List.setIfInBounds_toArray, List.set_cons_zero, List.set_cons_succ]
    refine pi_q (v := ?_) rfl (by rfl) ?_ ?_
    rotate_left
    · intro w' hBw'
      first | (go_simp; done) | (go_simp; with_reducible rfl)
    try simp only [Act.put, List.getElem_toArray, List.getElem_cons_zero, List.getElem_cons_succ, List.setIfInBounds_toArray, List.set_cons_zero, List.set_cons_succ]
    refine pi_q (v := ?_) rfl (by rfl) ?_ ?_
    rotate_left
    · intro w' hBw'
      first | (go_simp; done) | (go_simp; with_reducible rfl)
    try simp only [Act.put, List.getElem_toArray, List.getElem_cons_zero, List.getElem_cons_succ, List.setIfInBounds_toArray, List.set_cons_zero, List.set_cons_succ]
    refine pi_nil ?_
    have hob : Sum.openB k l = (Sum.sealB k l' == l) := by
      unfold Sum.openB
      rw [Hl'.out, Hln.out, decide_eq_true hs, Bool.true_and, Bool.eq_iff_iff]
      simp
    have Hob := Lib.hid hob
    clear hob
    have hcs4 := hcs.up hB4
    cases hq : (Sum.sealB k l' == l) with
    | true =>
      go_wp2_with (at_builtin; refine wpList_app rfl _ _ 23 rfl slT_u8 w4.heap.size rfl (World.ownsRow_lit w4 #[] 0 (Nat.le_refl _) (by decide) rfl) rfl (hcs4.up (below_alloc _ _)) (one_by8 _) (by simp [maxLen]; omega) (by omega) (by simp) ?_; intro v5 w5 hown5 hgrow5 _)
      go_ret2
      have hb5 := grown_below (below_alloc w4 _) hgrow5 (fun k hk => by have : w4.heap.size = k := Option.some.inj hk; omega)
      refine ⟨below_up hB4 hb5, .inl ⟨by rw [Hob.out]; exact hq, _, rfl, ?_⟩⟩
      rw [Hl'.out, show l'.length = m by rw [← Hl'.out]; exact Hcl.out]
      refine ⟨Sl.of_own (by simpa using hown5), .inr fun g hg => ?_⟩
      have := (own_of_some hown5 hg).1
      have := hB4.size
      omega
    | false =>
      go_wp2
      go_ret2
      exact ⟨hB4, .inr ⟨by rw [Hob.out]; exact hq, rfl⟩⟩
end Go.Proofs.Ytinohligpncpiaa
