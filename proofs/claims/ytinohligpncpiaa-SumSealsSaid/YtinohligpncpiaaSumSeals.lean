/-
  The walk of SumSeals: true, whatever the input; nothing that was there has turned.
-/
import Derived.Test.YtinohligpncpiaaSumW
import Derived.Test.YtinohligpncpiaaSumP
import Derived.Test.YtinohligpncpiaaOpenB
namespace Go.Proofs.Ytinohligpncpiaa
open Go.RowKit
set_option linter.unusedSimpArgs false
set_option linter.unusedVariables false

namespace Sum
theorem put_none (l : List UInt8) : Oct.putB (sumN 0 l) (wd 0) = [] := by unfold Oct.putB; rfl
theorem seal_len' {k : Nat} (hk : k ≤ 2) (l : List UInt8) : (sealB k l).length = l.length + wd k := by
  by_cases h : k = 0
  · subst h
    unfold sealB
    rw [put_none]; simp [wd]
  · exact seal_len (by omega) l
theorem cut_seal' {k : Nat} (hk : k ≤ 2) (l : List UInt8) : cutB k (sealB k l) = l := by
  unfold cutB
  rw [seal_len' hk, Nat.add_sub_cancel]
  unfold sealB
  simp
theorem open_seal' {k : Nat} (hk : k ≤ 2) (l : List UInt8) : openB k (sealB k l) = true := by
  unfold openB
  rw [cut_seal' hk, seal_len' hk]
  simp
def openL (k : Nat) (l : List UInt8) : List UInt8 := if openB k l then cutB k l else []
def openE (k : Nat) (l : List UInt8) : Int := if openB k l then 0 else 110
end Sum
theorem OpenPost.one {k : Nat} {l : List UInt8} {w : World} {e : Ending} {w' : World} (h : OpenPost k l w e w') :
    ∃ a c, e = .returned (.tuple #[.slice a (Sum.openL k l).length c, .int .i64 (Sum.openE k l)]) ∧ Sl w' 1 (.slice a (Sum.openL k l).length c) (Sum.openL k l).length (by8 (Sum.openL k l)) ∧ Below w.heap.size w w' := by
  obtain ⟨hb, h⟩ := h
  unfold Sum.openL Sum.openE
  rcases h with ⟨hy, v4, rfl, s4, _⟩ | ⟨hno, rfl⟩
  · rw [hy]
    obtain ⟨a, c, rfl⟩ := s4.len
    exact ⟨a, c, rfl, s4, hb⟩
  · rw [hno]
    exact ⟨none, 0, rfl, Sl.nil _ _, hb⟩

theorem sumSeals_big (k : Int) (l : List UInt8) (v : Value) (n : Nat) (w : World) (hv : Sl w 1 v n (by8 l)) (hn : 3000 < n) :
    Calls Try.prog 4 #[.int .i64 k, v] w (Ret (.bool true) w) := by
  obtain ⟨a, c, rfl⟩ := hv.len
  have hgd : (3000 : Int) < (n : Int) := by omega
  go_enter Try.func4, Try.ntmps4
  go_wp2_with (go_at_call 6; refine (sumWorks_c _).mono ?_; rintro e w7 ⟨rfl, hb⟩)
  go_ret
  exact ⟨rfl, hb⟩

set_option maxHeartbeats 4000000 in
set_option maxRecDepth 100000 in
theorem sumSeals_bad (k : Int) (hk : k < 0 ∨ 2 < k) (l : List UInt8) (v : Value) (n : Nat) (w : World) (hv : Sl w 1 v n (by8 l)) (hn : n ≤ 3000) :
    Calls Try.prog 4 #[.int .i64 k, v] w (Ret (.bool true) w) := by
  have Hd := Lib.hid (show (decide (0 ≤ k) && decide (k ≤ 2)) = false by rw [Bool.and_eq_false_iff]; simp; omega)
  have hln := hv.n_len
  have Hln := Lib.hid hln
  clear hln
  obtain ⟨a, c, rfl⟩ := hv.len
  have hgd : (n : Int) ≤ 3000 := by omega
  go_enter Try.func4, Try.ntmps4
  go_wp2_with (first
    | (at_builtin; refine wpList_app rfl (.tmp 20) (.tmp 21) 23 rfl slT_u8 w.heap.size rfl (World.ownsRow_lit w #[] 0 (Nat.le_refl _) (by decide) rfl) rfl (hv.up (below_alloc _ _)) (one_by8 _) (by simp [maxLen]; omega) (by omega) (by simp) ?_; intro v1 w1 hown hgrow _; have hB := grown_below (below_alloc _ _) hgrow (fun k hk => by have : w.heap.size = k := Option.some.inj hk; omega); simp only [Nat.zero_add, List.nil_append] at hown)
    | (at_builtin; refine wpList_app rfl (.tmp 22) (.tmp 23) 23 rfl slT_u8 w.heap.size rfl (hown.alloc _) rfl (sl1 _ _ rfl (.int .u8 77) _) (by intro u hu; simp at hu; subst hu; rfl) (by simp [maxLen]; omega) (by omega) (by have := hB.size; simp; omega) ?_; intro v2 w2 hown2 hgrow2 _; have hB2 := grown_below (hB.alloc hB.size _) hgrow2 (fun k hk => (hown.lt k hk).1); clear hgrow2; obtain ⟨g, cap, rfl, hg0, hg1, hcap, hmx⟩ := own_shape hown2 (Nat.succ_pos _); have hsl := fun (kh : IntKind) (w' : World) => run_cut_h slT_u8 (some ⟨g, 0, none⟩) (n + 1) cap n kh (by omega) w'; simp only [sliced0] at hsl))
  have hL : Lent w2 w.heap.size (.slice (some ⟨g, 0, none⟩) n cap) n l := ⟨g, cap, rfl, hg0, by rw [by8_app]; exact hown2⟩
  have hm2 := hL.sl
  have hv2 := hv.up hB2
  refine (seal_bad k hk _ _ _ _).mono ?_
  rintro e w3 ⟨rfl, hb3⟩
  go_wp2_with fail
  refine (open_bad k hk _ _ _ _).mono ?_
  rintro e w4 ⟨rfl, hb4⟩
  go_wp2_with fail
  refine (refOpen_bad k hk _ _ _ _).mono ?_
  rintro e w5 ⟨rfl, hb5⟩
  have h25 := below_up (below_up hb3 hb4) hb5
  have hB5 := below_up hB2 h25
  have hL5 : w5.ownsRow w.heap.size 5 1 (.slice (some ⟨g, 0, none⟩) (n + 1) cap) (n + 1) (by8 (l ++ [77])) := own_up (by rw [by8_app]; exact hown2) h25
  have hc77 := hL5.cellAt n (by omega)
  rw [by8_app, List.getElem?_append_right (by rw [by8_len, Hln.out]; omega), by8_len, Hln.out, Nat.sub_self] at hc77
  replace hc77 : w5.cell? ⟨g, n, none⟩ = some (.int .u8 77) := hc77
  have hs77 := fun (kh : IntKind) (w' : World) => run_cut_h slT_u8 (some ⟨g, 0, none⟩) n cap (n + 1) kh (by omega) w'
  simp only [sliced0, Int.natCast_add, Int.natCast_one] at hs77
  have tm : (convert 23 9 (.slice (some ⟨g, 0, none⟩) n cap)).run Try.prog w5 = .ok (.string ⟨l.toArray⟩) w5 := run_str Try.underlying23 Try.underlying5 Try.underlying9 (hm2.up h25)
  have tb : (convert 23 9 (.slice a n c)).run Try.prog w5 = .ok (.string ⟨l.toArray⟩) w5 := run_str Try.underlying23 Try.underlying5 Try.underlying9 (hv2.up h25)
  have tn : (convert 23 9 (.slice none 0 0)).run Try.prog w5 = .ok (.string ⟨#[]⟩) w5 := run_str Try.underlying23 Try.underlying5 Try.underlying9 (l := []) (Sl.nil _ _)
  clear hL5 hown hown2 hsl hgrow hm2 hv2 hL
  go_wp2_with (first
    | (go_at_call 10; refine (sumNum_c _ _).mono ?_; rintro e w9 ⟨rfl, rfl⟩)
    | (go_at_call 9; refine (refKind_c k _).mono ?_; rw [Hd.out]; rintro e w6 ⟨rfl, rfl⟩)
    | (go_at_call 6; refine (sumWorks_c _).mono ?_; rintro e w10 ⟨rfl, hb10⟩))
  go_ret
  exact ⟨rfl, below_up hB5 hb10⟩

set_option maxHeartbeats 4000000 in
set_option maxRecDepth 100000 in
theorem sumSeals_good (k : Nat) (hk : k ≤ 2) (l : List UInt8) (v : Value) (n : Nat) (w : World) (hv : Sl w 1 v n (by8 l)) (hn : n ≤ 3000) :
    Calls Try.prog 4 #[.int .i64 k, v] w (Ret (.bool true) w) := by
  have Hd := Lib.hid (show (decide (0 ≤ (k : Int)) && decide ((k : Int) ≤ 2)) = true by rw [Bool.and_eq_true]; simp; omega)
  have hln := hv.n_len
  have Hln := Lib.hid hln
  clear hln
  obtain ⟨a, c, rfl⟩ := hv.len
  have hgd : (n : Int) ≤ 3000 := by omega
  go_enter Try.func4, Try.ntmps4
  go_wp2_with (first
    | (at_builtin; refine wpList_app rfl (.tmp 20) (.tmp 21) 23 rfl slT_u8 w.heap.size rfl (World.ownsRow_lit w #[] 0 (Nat.le_refl _) (by decide) rfl) rfl (hv.up (below_alloc _ _)) (one_by8 _) (by simp [maxLen]; omega) (by omega) (by simp) ?_; intro v1 w1 hown hgrow _; have hB := grown_below (below_alloc _ _) hgrow (fun k hk => by have : w.heap.size = k := Option.some.inj hk; omega); simp only [Nat.zero_add, List.nil_append] at hown)
    | (at_builtin; refine wpList_app rfl (.tmp 22) (.tmp 23) 23 rfl slT_u8 w.heap.size rfl (hown.alloc _) rfl (sl1 _ _ rfl (.int .u8 77) _) (by intro u hu; simp at hu; subst hu; rfl) (by simp [maxLen]; omega) (by omega) (by have := hB.size; simp; omega) ?_; intro v2 w2 hown2 hgrow2 _; have hB2 := grown_below (hB.alloc hB.size _) hgrow2 (fun k hk => (hown.lt k hk).1); clear hgrow2; obtain ⟨g, cap, rfl, hg0, hg1, hcap, hmx⟩ := own_shape hown2 (Nat.succ_pos _); have hsl := fun (kh : IntKind) (w' : World) => run_cut_h slT_u8 (some ⟨g, 0, none⟩) (n + 1) cap n kh (by omega) w'; simp only [sliced0] at hsl))
  have hL : Lent w2 w.heap.size (.slice (some ⟨g, 0, none⟩) n cap) n l := ⟨g, cap, rfl, hg0, by rw [by8_app]; exact hown2⟩
  have hm2 := hL.sl
  have hv2 := hv.up hB2
  obtain ⟨S, hS⟩ : ∃ S, Sum.sealB k l = S := ⟨_, rfl⟩
  obtain ⟨q, hq⟩ : ∃ q, S.length = q := ⟨_, rfl⟩
  have HQ := Lib.hid hq
  have hwd : Sum.wd k ≤ 4 := by unfold Sum.wd; split <;> decide
  have hq4 : q ≤ n + 4 := by have := Sum.seal_len' hk l; rw [hS, hq, Hln.out] at this; omega
  refine (seal_c k hk l _ _ n _ hm2 (by omega)).mono ?_
  rw [hS, hq]
  rintro e w3 ⟨v3, rfl, ho3, hb3⟩
  have s3 := Sl.of_own ho3
  obtain ⟨a1, c1, rfl⟩ := s3.len
  clear hq ho3
  go_wp2_with fail
  refine (open_all k hk l _ _ n _ (hm2.up hb3) (by omega)).mono ?_
  rintro e w4 h4
  obtain ⟨a4, c4, rfl, s4, hb4⟩ := h4.one
  clear h4
  go_wp2_with fail
  refine (refOpen_all k hk l _ _ n _ ((hv2.up hb3).up hb4) (by omega)).mono ?_
  rintro e w5 h5
  obtain ⟨a5, c5, rfl, s5, hb5⟩ := h5.one
  clear h5
  obtain ⟨C, hC⟩ : ∃ C, Sum.openL k l = C := ⟨_, rfl⟩
  obtain ⟨f, hf⟩ : ∃ f, Sum.openE k l = f := ⟨_, rfl⟩
  rw [hC] at s4 s5
  rw [hC, hf]
  clear hC hf
  generalize C.length = cl at *
  have h25 := below_up (below_up hb3 hb4) hb5
  have hB5 := below_up hB2 h25
  have hL5 : w5.ownsRow w.heap.size 5 1 (.slice (some ⟨g, 0, none⟩) (n + 1) cap) (n + 1) (by8 (l ++ [77])) := own_up (by rw [by8_app]; exact hown2) h25
  have hc77 := hL5.cellAt n (by omega)
  rw [by8_app, List.getElem?_append_right (by rw [by8_len, Hln.out]; omega), by8_len, Hln.out, Nat.sub_self] at hc77
  replace hc77 : w5.cell? ⟨g, n, none⟩ = some (.int .u8 77) := hc77
  have hs77 := fun (kh : IntKind) (w' : World) => run_cut_h slT_u8 (some ⟨g, 0, none⟩) n cap (n + 1) kh (by omega) w'
  simp only [sliced0, Int.natCast_add, Int.natCast_one] at hs77
  have tm : (convert 23 9 (.slice (some ⟨g, 0, none⟩) n cap)).run Try.prog w5 = .ok (.string ⟨l.toArray⟩) w5 := run_str Try.underlying23 Try.underlying5 Try.underlying9 (hm2.up h25)
  have tb : (convert 23 9 (.slice a n c)).run Try.prog w5 = .ok (.string ⟨l.toArray⟩) w5 := run_str Try.underlying23 Try.underlying5 Try.underlying9 (hv2.up h25)
  have t4 : (convert 23 9 (.slice a4 cl c4)).run Try.prog w5 = .ok (.string ⟨C.toArray⟩) w5 := run_str Try.underlying23 Try.underlying5 Try.underlying9 (s4.up hb5)
  have t5 : (convert 23 9 (.slice a5 cl c5)).run Try.prog w5 = .ok (.string ⟨C.toArray⟩) w5 := run_str Try.underlying23 Try.underlying5 Try.underlying9 s5
  have s35 := (s3.up hb4).up hb5
  have hv5 := hv2.up h25
  clear hL5 hown hown2 hsl hgrow hm2 hv2 hL s4 s5 s3
  go_wp2_with (first
    | (go_at_call 10; refine (sumNum_c _ _).mono ?_; rintro e w9 ⟨rfl, rfl⟩)
    | (go_at_call 9; refine (refKind_c k _).mono ?_; rw [Hd.out]; rintro e w6 ⟨rfl, rfl⟩))
  refine (open_all k hk S _ _ q _ s35 (by omega)).mono ?_
  rintro e w7 h7
  obtain ⟨a7, c7, rfl, p7, hb7⟩ := h7.one
  have hL7 : Sum.openL k S = l := by unfold Sum.openL; rw [← hS, Sum.open_seal' hk, Sum.cut_seal' hk]; rfl
  have hE7 : Sum.openE k S = 0 := by unfold Sum.openE; rw [← hS, Sum.open_seal' hk]; rfl
  rw [hL7, Hln.out] at p7
  rw [hL7, hE7, Hln.out]
  have s7 := s35.up hb7
  have hv7 := hv5.up hb7
  have hB7 := below_up hB5 hb7
  clear h7 hL7 hE7 s35 hv5 tm tb t4 t5 hs77 hc77
  go_wp2_with fail
  refine wp_region_pi [(0, false), (2, false), (1, true), (3, true), (4, false), (5, false), (6, false), (7, false), (8, false), (9, false), (10, false), (11, true), (12, false), (13, false), (14, false), (15, false), (16, false), (17, false), (18, false), (19, false), (20, false), (21, false), (22, false), (23, true), (24, false), (25, false)] (by kernel_rfl) (by kernel_rfl) (by kernel_rfl) rfl (fun _ _ d _ _ h => by cases d <;> exact h) (fun Wd hBd => ?_)
  try simp only [Act.put, List.getElem_toArray, List.getElem_cons_zero, List.getElem_cons_succ, List.setIfInBounds_toArray, List.set_cons_zero, List.set_cons_succ]
  have b1 : ∀ w', Below Wd.heap.size Wd w' → (convert 23 9 (.slice a1 q c1)).run Try.prog w' = .ok (.string ⟨S.toArray⟩) w' := fun w' h => run_str Try.underlying23 Try.underlying5 Try.underlying9 (s7.up (below_up hBd h))
  refine pi_q (v := ?_) rfl (by rfl) ?_ ?_
  rotate_left
  · intro w' hBw'
    first | (go_simp; done) | (go_simp; with_reducible rfl)
  try simp only [Act.put, List.getElem_toArray, List.getElem_cons_zero, List.getElem_cons_succ, List.setIfInBounds_toArray, List.set_cons_zero, List.set_cons_succ]
  refine pi_q (v := ?_) rfl (by rfl) ?_ ?_
  rotate_left
  · intro w' hBw'
    first | (go_simp; done) | (go_simp; with_reducible rfl)
  try simp only [Act.put, List.getElem_toArray, List.getElem_cons_zero, List.getElem_cons_succ, List.setIfInBounds_toArray, List.set_cons_zero, List.set_cons_succ]
  refine pi_c rfl (by rfl) (fun K hK => ?_)
  go_simp
  refine (sumNum_c _ _).mono ?_
  rintro e w9 ⟨rfl, rfl⟩
  go_wp2_with fail
  refine hK.out _ _ (Below.refl _ _) ?_
  clear hK K
  try simp only [Act.put, List.getElem_toArray, List.getElem_cons_zero, List.getElem_cons_succ, List.setIfInBounds_toArray, List.set_cons_zero, List.set_cons_succ]
  refine pi_c rfl (by rfl) (fun K hK => ?_)
  go_simp
  refine (sumNum_c _ _).mono ?_
  rintro e w9 ⟨rfl, rfl⟩
  go_wp2_with fail
  refine hK.out _ _ (Below.refl _ _) ?_
  clear hK K
  try simp only [Act.put, List.getElem_toArray, List.getElem_cons_zero, List.getElem_cons_succ, List.setIfInBounds_toArray, List.set_cons_zero, List.set_cons_succ]
  refine pi_q (v := ?_) rfl (by rfl) ?_ ?_
  rotate_left
  · intro w' hBw'
    first | (go_simp; done) | (go_simp; with_reducible rfl)
  try simp only [Act.put, List.getElem_toArray, List.getElem_cons_zero, List.getElem_cons_succ, List.setIfInBounds_toArray, List.set_cons_zero, List.set_cons_succ]
  refine pi_q (v := ?_) rfl (by rfl) ?_ ?_
  rotate_left
  · intro w' hBw'
    first | (go_simp; done) | (go_simp; with_reducible rfl)
  try simp only [Act.put, List.getElem_toArray, List.getElem_cons_zero, List.getElem_cons_succ, List.setIfInBounds_toArray, List.set_cons_zero, List.set_cons_succ]
  refine pi_q (v := ?_) rfl (by rfl) ?_ ?_
  rotate_left
  · intro w' hBw'
    first | (go_simp; done) | (go_simp; with_reducible rfl)
  try simp only [Act.put, List.getElem_toArray, List.getElem_cons_zero, List.getElem_cons_succ, List.setIfInBounds_toArray, List.set_cons_zero, List.set_cons_succ]
  refine pi_q (v := ?_) rfl (by rfl) ?_ ?_
  rotate_left
  · intro w' hBw'
    first | (go_simp; done) | (go_simp; with_reducible rfl)
  try simp only [Act.put, List.getElem_toArray, List.getElem_cons_zero, List.getElem_cons_succ, List.setIfInBounds_toArray, List.set_cons_zero, List.set_cons_succ]
  refine pi_q (v := ?_) rfl (by rfl) ?_ ?_
  rotate_left
  · intro w' hBw'
    first | (go_simp; done) | (go_simp; with_reducible rfl)
  try simp only [Act.put, List.getElem_toArray, List.getElem_cons_zero, List.getElem_cons_succ, List.setIfInBounds_toArray, List.set_cons_zero, List.set_cons_succ]
  refine pi_q (v := ?_) rfl (by rfl) ?_ ?_
  rotate_left
  · intro w' hBw'
    first | (go_simp; done) | (go_simp; with_reducible rfl)
  try simp only [Act.put, List.getElem_toArray, List.getElem_cons_zero, List.getElem_cons_succ, List.setIfInBounds_toArray, List.set_cons_zero, List.set_cons_succ]
  refine pi_q (v := ?_) rfl (by rfl) ?_ ?_
  rotate_left
  · intro w' hBw'
    first | (go_simp; done) | (go_simp; with_reducible rfl)
  try simp only [Act.put, List.getElem_toArray, List.getElem_cons_zero, List.getElem_cons_succ, List.setIfInBounds_toArray, List.set_cons_zero, List.set_cons_succ]
  refine pi_c rfl (by rfl) (fun K hK => ?_)
  go_simp
  refine (refSeal_c k hk l _ _ _ _ (hv7.up hBd) (by omega)).mono ?_
  rw [hS]
  rintro e w8 ⟨v8, rfl, ho8, hb8⟩
  have hB8 := below_up hBd hb8
  have s8 := Sl.of_own ho8
  rw [HQ.out] at s8
  obtain ⟨a8, c8, rfl⟩ := s8.len
  have t8 : ∀ w', Below w8.heap.size w8 w' → (convert 23 9 (.slice a8 q c8)).run Try.prog w' = .ok (.string ⟨S.toArray⟩) w' := fun w' h => run_str Try.underlying23 Try.underlying5 Try.underlying9 (s8.up h)
  have b2 : ∀ w', Below w8.heap.size w8 w' → (convert 23 9 (.slice a7 n c7)).run Try.prog w' = .ok (.string ⟨l.toArray⟩) w' := fun w' h => run_str Try.underlying23 Try.underlying5 Try.underlying9 (p7.up (below_up hB8 h))
  have b3 : ∀ w', Below w8.heap.size w8 w' → (convert 23 9 (.slice a n c)).run Try.prog w' = .ok (.string ⟨l.toArray⟩) w' := fun w' h => run_str Try.underlying23 Try.underlying5 Try.underlying9 (hv7.up (below_up hB8 h))
  clear ho8
  go_wp2_with fail
  refine hK.out _ _ hb8 ?_
  clear hK K
  try simp only [Act.put, List.getElem_toArray, List.getElem_cons_zero, List.getElem_cons_succ, List.setIfInBounds_toArray, List.set_cons_zero, List.set_cons_succ]
  refine pi_q (v := ?_) rfl (by rfl) ?_ ?_
  rotate_left
  · intro w' hBw'
    first | (go_simp; done) | (go_simp; with_reducible rfl)
  try simp only [Act.put, List.getElem_toArray, List.getElem_cons_zero, List.getElem_cons_succ, List.setIfInBounds_toArray, List.set_cons_zero, List.set_cons_succ]
  refine pi_q (v := ?_) rfl (by rfl) ?_ ?_
  rotate_left
  · intro w' hBw'
    first | (go_simp; done) | (go_simp; with_reducible rfl)
  try simp only [Act.put, List.getElem_toArray, List.getElem_cons_zero, List.getElem_cons_succ, List.setIfInBounds_toArray, List.set_cons_zero, List.set_cons_succ]
  refine pi_q (v := ?_) rfl (by rfl) ?_ ?_
  rotate_left
  · intro w' hBw'
    first | (go_simp; done) | (go_simp; with_reducible rfl)
  try simp only [Act.put, List.getElem_toArray, List.getElem_cons_zero, List.getElem_cons_succ, List.setIfInBounds_toArray, List.set_cons_zero, List.set_cons_succ]
  refine pi_q (v := ?_) rfl (by rfl) ?_ ?_
  rotate_left
  · intro w' hBw'
    first | (go_simp; done) | (go_simp; with_reducible rfl)
  try simp only [Act.put, List.getElem_toArray, List.getElem_cons_zero, List.getElem_cons_succ, List.setIfInBounds_toArray, List.set_cons_zero, List.set_cons_succ]
  refine pi_q (v := ?_) rfl (by rfl) ?_ ?_
  rotate_left
  · intro w' hBw'
    first | (go_simp; done) | (go_simp; with_reducible rfl)
  try simp only [Act.put, List.getElem_toArray, List.getElem_cons_zero, List.getElem_cons_succ, List.setIfInBounds_toArray, List.set_cons_zero, List.set_cons_succ]
  refine pi_q (v := ?_) rfl (by rfl) ?_ ?_
  rotate_left
  · intro w' hBw'
    first | (go_simp; done) | (go_simp; with_reducible rfl)
  try simp only [Act.put, List.getElem_toArray, List.getElem_cons_zero, List.getElem_cons_succ, List.setIfInBounds_toArray, List.set_cons_zero, List.set_cons_succ]
  refine pi_q (v := ?_) rfl (by rfl) ?_ ?_
  rotate_left
  · intro w' hBw'
    first | (go_simp; done) | (go_simp; with_reducible rfl)
  try simp only [Act.put, List.getElem_toArray, List.getElem_cons_zero, List.getElem_cons_succ, List.setIfInBounds_toArray, List.set_cons_zero, List.set_cons_succ]
  refine pi_q (v := ?_) rfl (by rfl) ?_ ?_
  rotate_left
  · intro w' hBw'
    first | (go_simp; done) | (go_simp; with_reducible rfl)
  try simp only [Act.put, List.getElem_toArray, List.getElem_cons_zero, List.getElem_cons_succ, List.setIfInBounds_toArray, List.set_cons_zero, List.set_cons_succ]
  refine pi_q (v := ?_) rfl (by rfl) ?_ ?_
  rotate_left
  · intro w' hBw'
    first | (go_simp; done) | (go_simp; with_reducible rfl)
  try simp only [Act.put, List.getElem_toArray, List.getElem_cons_zero, List.getElem_cons_succ, List.setIfInBounds_toArray, List.set_cons_zero, List.set_cons_succ]
  refine pi_q (v := ?_) rfl (by rfl) ?_ ?_
  rotate_left
  · intro w' hBw'
    first | (go_simp; done) | (go_simp; with_reducible rfl)
  try simp only [Act.put, List.getElem_toArray, List.getElem_cons_zero, List.getElem_cons_succ, List.setIfInBounds_toArray, List.set_cons_zero, List.set_cons_succ]
  refine pi_q (v := ?_) rfl (by rfl) ?_ ?_
  rotate_left
  · intro w' hBw'
    first | (go_simp; done) | (go_simp; with_reducible rfl)
  try simp only [Act.put, List.getElem_toArray, List.getElem_cons_zero, List.getElem_cons_succ, List.setIfInBounds_toArray, List.set_cons_zero, List.set_cons_succ]
  refine pi_c rfl (by rfl) (fun K hK => ?_)
  go_simp
  refine (sumWorks_c _).mono ?_
  rintro e w10 ⟨rfl, hb10⟩
  have hB10 := below_up hB8 hb10
  go_wp2_with fail
  refine hK.out _ _ hb10 ?_
  clear hK K
  try simp only [Act.put, List.getElem_toArray, List.getElem_cons_zero, List.getElem_cons_succ, List.setIfInBounds_toArray, List.set_cons_zero, List.set_cons_succ]
  refine pi_q (v := ?_) rfl (by rfl) ?_ ?_
  rotate_left
  · intro w' hBw'
    first | (go_simp; done) | (go_simp; with_reducible rfl)
  try simp only [Act.put, List.getElem_toArray, List.getElem_cons_zero, List.getElem_cons_succ, List.setIfInBounds_toArray, List.set_cons_zero, List.set_cons_succ]
  refine pi_q (v := ?_) rfl (by rfl) ?_ ?_
  rotate_left
  · intro w' hBw'
    first | (go_simp; done) | (go_simp; with_reducible rfl)
  try simp only [Act.put, List.getElem_toArray, List.getElem_cons_zero, List.getElem_cons_succ, List.setIfInBounds_toArray, List.set_cons_zero, List.set_cons_succ]
  refine pi_nil ?_
  go_wp2
  go_ret
  exact ⟨rfl, below_up hB7 hB10⟩

theorem sumSeals_all (k : Int) (l : List UInt8) (v : Value) (n : Nat) (w : World) (hv : Sl w 1 v n (by8 l)) :
    Calls Try.prog 4 #[.int .i64 k, v] w (Ret (.bool true) w) := by
  rcases Nat.lt_or_ge 3000 n with h | h
  · exact sumSeals_big k l v n w hv h
  · by_cases hk : k < 0 ∨ 2 < k
    · exact sumSeals_bad k hk l v n w hv h
    · obtain ⟨K, rfl⟩ : ∃ K : Nat, k = K := ⟨k.toNat, by omega⟩
      exact sumSeals_good K (by omega) l v n w hv h
end Go.Proofs.Ytinohligpncpiaa
