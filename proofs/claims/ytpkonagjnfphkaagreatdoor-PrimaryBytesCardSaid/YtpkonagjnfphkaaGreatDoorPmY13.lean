/-
  CbRu: several texts in one (bundle.py).
-/
import Derived.Test.YtpkonagjnfphkaaGreatDoorPmY11
import Derived.Test.YtpkonagjnfphkaaGreatDoorPmY12
import Derived.Test.YtpkonagjnfphkaaGreatDoorPmY10
import Derived.Test.YtpkonagjnfphkaaGreatDoorPmY07
set_option linter.unusedSimpArgs false
set_option linter.unusedVariables false
set_option maxRecDepth 100000
set_option maxHeartbeats 4000000
namespace Go.Proofs.YtpkonagjnfphkaaGreatDoor
open Go.RowKit Go.Maps Cb
theorem not_ents {k : Int} (h : ¬ (1 ≤ k ∧ k ≤ 6)) : ∀ p ∈ wEnts, p.1 ≠ .int .i64 k := by
  intro p hp e; simp only [wEnts, List.mem_cons, List.not_mem_nil, or_false] at hp
  rcases hp with rfl | rfl | rfl | rfl | rfl | rfl <;> (simp at e; omega)
theorem wf_i64 {k : Int} (h0 : -9223372036854775808 ≤ k) (h1 : k ≤ 9223372036854775807) : (Lit.int .i64 k).wf = true := by
  simp [Lit.wf]; exact ⟨h0, h1⟩
namespace Cb
def mask (x : It) : It := .mk x.k (if x.k = 1 ∨ x.k = 5 then x.n else 0) (if x.k = 2 then x.b else []) (if x.k = 3 then x.s else ⟨#[]⟩) (if x.k = 4 then x.l else [])
theorem cnt_eq (x : It) : cnt x = 1 + x.b.length + x.s.size + cntL x.l := by cases x; rfl
theorem mask_cnt (x : It) : cnt (mask x) ≤ cnt x := by
  have h1 : (mask x).b.length ≤ x.b.length := by
    show (if x.k = 2 then x.b else []).length ≤ _; by_cases h : x.k = 2
    · rw [if_pos h]; exact Nat.le_refl _
    · rw [if_neg h]; simp
  have h2 : (mask x).s.size ≤ x.s.size := by
    show (if x.k = 3 then x.s else ⟨#[]⟩).size ≤ _; by_cases h : x.k = 3
    · rw [if_pos h]; exact Nat.le_refl _
    · rw [if_neg h]; exact Nat.zero_le _
  have h3 : cntL (mask x).l ≤ cntL x.l := by
    show cntL (if x.k = 4 then x.l else []) ≤ _; by_cases h : x.k = 4
    · rw [if_pos h]; exact Nat.le_refl _
    · rw [if_neg h]; simp [cntL]
  rw [cnt_eq, cnt_eq]; omega
theorem empty_size {s : ByteArray} : (s.size = 0) ↔ s = ⟨#[]⟩ := by
  constructor
  · intro h
    apply ByteArray.ext; exact Array.eq_empty_of_size_eq_zero h
  · rintro rfl; rfl
theorem mask_same (x : It) : sameB x (mask x) = bareB x := by
  rw [Bool.eq_iff_iff, sameB_iff]
  cases x with
  | mk k n b s l =>
    simp only [mask, bareB, It.k, It.n, It.b, It.s, It.l, It.mk.injEq, true_and, Bool.and_eq_true, Bool.or_eq_true, beq_iff_eq, List.length_eq_zero_iff, empty_size]
    by_cases h1 : k = 1 <;> by_cases h2 : k = 2 <;> by_cases h3 : k = 3 <;> by_cases h4 : k = 4 <;> by_cases h5 : k = 5 <;> simp_all
end Cb
theorem mask_it {S : Nat → Prop} {w : World} {x : It} {k1 n1 : Int} {vb vl : Value} {s1 : ByteArray} (h : ItR S w x ⟨k1, n1, vb, s1, vl⟩) :
    ItR S w (mask x) ⟨k1, if x.k = 1 ∨ x.k = 5 then n1 else 0, if x.k = 2 then vb else .slice none 0 0, if x.k = 3 then s1 else ⟨#[]⟩, if x.k = 4 then vl else .slice none 0 0⟩ := by
  obtain ⟨rows, p⟩ := h.parts
  have hnil : ∀ sz, SlS S w sz (.slice none 0 0) 0 [] := fun sz => ⟨Sl.nil w sz, .inl rfl⟩
  have h2 := p.n; have h3 := p.s; have h6 := p.b; have h7 := p.l; simp only at h2 h3 h6 h7; refine Parts.it (rows := if x.k = 4 then rows else []) ⟨p.k, ?_, ?_, ?_, ?_, ?_, ?_, ?_⟩
  · show (if x.k = 1 ∨ x.k = 5 then n1 else 0) = (if x.k = 1 ∨ x.k = 5 then x.n else 0)
    rw [h2]
  · show (if x.k = 3 then s1 else ⟨#[]⟩) = (if x.k = 3 then x.s else ⟨#[]⟩)
    rw [h3]
  · show 0 ≤ (if x.k = 1 ∨ x.k = 5 then x.n else 0)
    have := p.lo
    split <;> omega
  · show (if x.k = 1 ∨ x.k = 5 then x.n else 0) ≤ 18446744073709551615
    have := p.hi
    split <;> omega
  · show SlS S w 1 (if x.k = 2 then vb else .slice none 0 0) (if x.k = 2 then x.b else []).length (by8 (if x.k = 2 then x.b else []))
    by_cases h : x.k = 2
    · rw [if_pos h, if_pos h]; exact h6
    · rw [if_neg h, if_neg h]; exact hnil 1
  · show SlS S w 5 (if x.k = 4 then vl else .slice none 0 0) (if x.k = 4 then x.l else []).length ((if x.k = 4 then rows else []).flatMap rwC)
    by_cases h : x.k = 4
    · rw [if_pos h, if_pos h, if_pos h]; exact h7
    · rw [if_neg h, if_neg h, if_neg h]; exact hnil 5
  · show ItsR S w (if x.k = 4 then x.l else []) (if x.k = 4 then rows else [])
    by_cases h : x.k = 4
    · rw [if_pos h, if_pos h]; exact p.each
    · rw [if_neg h, if_neg h]; simp [ItsR]
namespace Cb
theorem right_is (x : It) {f z : Bool} (hf : (runes x.s).2 = f) (hz : bareB x = z) : rightB x = ((decide (1 ≤ x.k ∧ x.k ≤ 6) && (z && (decide (x.k ≠ 5 ∨ x.n ≤ 1) && f))) && rightL x.l) := by
  rw [rightB_eq, ownB, hf, hz]
end Cb
theorem right_k1 (S : Nat → Prop) (x : It) (ih : ∀ y ∈ x.l, RiC S y) (hk : x.k = 1) : RiC S x := by
  intro r w hr hcx hkw hT hSk; obtain ⟨k1, n1, ba1, bn1, bc1, s1, la1, ln1, lc1, rfl⟩ := hr.shape; obtain ⟨rows, p⟩ := hr.parts; have hB1 := below_alloc w (.cells (rwC ⟨k1, n1, .slice ba1 bn1 bc1, s1, .slice la1 ln1 lc1⟩).toArray 62); have e1 := rangeAt_new w (rwC ⟨k1, n1, .slice ba1 bn1 bc1, s1, .slice la1 ln1 lc1⟩) 62 (0, 0)
  have hk1 : k1 = 1 := by rw [← hk]; exact p.k
  subst hk1; have Hr := Lib.hid hr; have Hp := Lib.hid p; have KK : Keyed Tryz.prog 60 := int_keyed Tryz.underlying60; clear hr p; refine calls_of_wpK Tryz.func135 rfl ?_; simp only [Tryz.ntmps135, List.size_toArray, List.length_cons, List.length_nil, Nat.reduceAdd, Nat.reduceSub, Array.replicate_succ, Array.replicate_zero, List.push_toArray, List.append_toArray, List.nil_append, List.cons_append]
  refine wpK_seq_k fun K hK => ?_
  go_wp2
  refine wpK_seq_k fun K hK => ?_
  refine wp_onlyN (wp_region_pi [(1, false), (2, false), (0, true), (3, false), (4, false), (5, false), (6, false), (7, false), (8, false)] (by kernel_rfl) (by kernel_rfl) (by kernel_rfl) rfl onlyN_panic (fun Wd hBd => ?_))
  try simp only [zq]
  have hrd := rangeAt_up hBd e1
  have c1 : ∀ w', Below Wd.heap.size Wd w' → w'.cell? ⟨w.heap.size, 0 + 0, none⟩ = some (.int .i64 1) := fun w' h => rangeAt_up h hrd 0 _ rfl
  simp only [Nat.add_zero] at c1; refine zi rfl (by rfl) ?_; refine zi rfl (by rfl) ?_; refine pi_call rfl (by rfl) ((writes_c Wd)) enters_writes (by rfl) (by kernel_rfl) ?_; rintro en wN ⟨rfl, hm1, hb1⟩; refine ⟨_, rfl, hb1, ?_⟩
  try simp only [zq]
  have hlk : ∀ w', Below wN.heap.size wN w' → (Instr.lookup 192 (.map (some Wd.heap.size)) (.int .i64 1) true).run Tryz.prog w' = .ok (.tuple #[.func (.func 169) #[] #[], .bool true]) w' := fun w' h => MapAt.look_some (hm1.heap (h.block _ hm1.lt)) KK Tryz.underlying192 (keyOf_int_mk (a := 1) Tryz.underlying60 (by decide)) (by simp [wEnts]) true
  iterate 6
    refine zi rfl (by rfl) ?_
  refine pi_nilN ?_; go_wp2
  refine wpK_seq_k fun K hK => ?_
  have hBN := below_up (below_up hB1 hBd) hb1; have hrN := rangeAt_up hb1 hrd; have r0 := hrN 0 _ rfl; have r1 := hrN 1 _ rfl; have r2 := hrN 2 _ rfl; have r3 := hrN 3 _ rfl; have r4 := hrN 4 _ rfl; simp only [Nat.add_zero] at r0; go_wp2
  refine wpK_seq_k fun K hK => ?_
  go_wp2
  refine wpK_seq_k fun K hK => ?_
  obtain ⟨f, hf⟩ : ∃ f, (runes s1).2 = f := ⟨_, rfl⟩; have hs1 : s1 = x.s := Hp.out.s
  have hsz : s1.size ≤ 9223372036854775807 := by rw [hs1]; cases x; simp only [cnt, It.s] at *; omega
  have hB3 : Below w.heap.size w (wN.alloc (.cells (rwC ⟨1, n1, .slice none 0 0, ⟨#[]⟩, .slice none 0 0⟩).toArray 62)) := hBN.alloc hBN.size _; have hT3 := hT.up hB3; have q1 := rangeAt_up (below_alloc wN (.cells (rwC ⟨1, n1, .slice none 0 0, ⟨#[]⟩, .slice none 0 0⟩).toArray 62)) hrN; have q2 := rangeAt_new wN (rwC ⟨1, n1, .slice none 0 0, ⟨#[]⟩, .slice none 0 0⟩) 62 (0, 0); have hrun := runes_c s1 _ hsz hT3; rw [hf] at hrun; obtain ⟨rn, hrn⟩ : ∃ rn : Nat, (runes s1).1 = rn := ⟨_, rfl⟩; rw [hrn] at hrun; clear hrn; have hmy := mask_it (Hr.out.up hB3); simp only [hk, show ((1 : Int) = 1) = True by decide, show ((1 : Int) = 2) = False by decide, show ((1 : Int) = 3) = False by decide, show ((1 : Int) = 4) = False by decide, show ((1 : Int) = 5) = False by decide, or_true, true_or, or_false, false_or, or_self, if_true, if_false] at hmy
  have hxy := Hr.out.up hB3
  have hsm := fun w' (hb : Below (wN.alloc (.cells (rwC ⟨1, n1, .slice none 0 0, ⟨#[]⟩, .slice none 0 0⟩).toArray 62)).heap.size _ w') => cbSame_c S x (mask x) ⟨1, n1, .slice ba1 bn1 bc1, s1, .slice la1 ln1 lc1⟩ ⟨1, n1, .slice none 0 0, ⟨#[]⟩, .slice none 0 0⟩ w' (hxy.up hb) (hmy.up hb) hcx (by have := mask_cnt x; omega)
  have hbr := mask_same x; obtain ⟨z, hz⟩ : ∃ z, sameB x (mask x) = z := ⟨_, rfl⟩; rw [hz] at hsm hbr; have HRB := Lib.hid (right_is x (f := f) (z := z) (by rw [← hs1]; exact hf) hbr.symm); have Hxy := Lib.hid hxy; have HB3 := Lib.hid hB3; have HT3 := Lib.hid hT3; have HSM := Lib.hid hsm; have c3 := q1 3 _ rfl; obtain ⟨W3, hW3⟩ : ∃ W3, wN.alloc (.cells #[.int .i64 1, .int .u64 n1, .slice none 0 0, .string ⟨#[]⟩, .slice none 0 0] 62) = W3 := ⟨_, rfl⟩; change wN.alloc (.cells (rwC ⟨1, n1, .slice none 0 0, ⟨#[]⟩, .slice none 0 0⟩).toArray 62) = W3 at hW3; rw [hW3] at Hxy HB3 HT3 HSM hrun q1 q2 c3; change wN.alloc (.cells #[.int .i64 1, .int .u64 n1, .slice none 0 0, .string ⟨#[]⟩, .slice none 0 0] 62) = W3 at hW3; rw [hW3]; clear hW3; clear hs1 hrN r0 r1 r2 r3 r4 hrd c1 hlk hf hz hbr hmy hxy hB3 hT3 hsm hsz e1; cases f
  · have HN := Lib.hid (show rightB x = false by simp [HRB.out])
    go_wp2_with (go_at_call 147; refine hrun.mono ?_; rintro en w4 ⟨rfl, hb4⟩)
    refine wpK_seq_k fun K hK => ?_
    go_wp2_with (go_at_call 125; refine (must_no 2 _).mono ?_; rintro en w6 ⟨rfl, rfl⟩)
    exact ⟨below_up HB3.out hb4, by rw [HN.out]; rfl⟩
  · go_wp2_with (go_at_call 147; refine hrun.mono ?_; rintro en w4 ⟨rfl, hb4⟩)
    refine wpK_seq_k fun K hK => ?_
    have q1 := rangeAt_up hb4 q1; have q2 := rangeAt_up hb4 q2; have a0 := q1 0 _ rfl; have y0 := q2 0 _ rfl; have a1 := q1 1 _ rfl; have y1 := q2 1 _ rfl; have a2 := q1 2 _ rfl; have y2 := q2 2 _ rfl; have a3 := q1 3 _ rfl; have y3 := q2 3 _ rfl; have a4 := q1 4 _ rfl; have y4 := q2 4 _ rfl; simp only [Nat.zero_add] at a0 a1 a2 a3 a4 y0 y1 y2 y3 y4; cases z
    · have HN := Lib.hid (show rightB x = false by simp [HRB.out])
      go_wp2_with (first
      | (go_at_call 156; refine (HSM.out _ hb4).mono ?_; rintro en w5 ⟨rfl, hb5⟩; have d0 := rangeAt_up hb5 q1 0 _ rfl; have d1 := rangeAt_up hb5 q1 1 _ rfl; simp only [Nat.zero_add] at d0 d1)
      | (go_at_call 125; refine (must_no 2 _).mono ?_; rintro en w6 ⟨rfl, rfl⟩))
      exact ⟨below_up HB3.out (below_up hb4 hb5), by rw [HN.out]; rfl⟩
    · have HY := Lib.hid (show rightB x = rightL x.l by simp [HRB.out, hk])
      go_wp2_with (first
        | (go_at_call 156; refine (HSM.out _ hb4).mono ?_; rintro en w5 ⟨rfl, hb5⟩; have d0 := rangeAt_up hb5 q1 0 _ rfl; have d1 := rangeAt_up hb5 q1 1 _ rfl; simp only [Nat.zero_add] at d0 d1)
        | (go_at_call 125; refine (must_yes 2 _).mono ?_; rintro en w6 ⟨rfl, rfl⟩))
      rw [HY.out]; have hbw := below_up HB3.out (below_up hb4 hb5)
      have hcl : cntL x.l ≤ 1000000 := by have := cnt_eq x; omega
      exact right_tail S x.l ih hcl ((kwB_eq x).1 hkw).2 w w5 hbw (fun q hq => by have := hSk q hq; have := hbw.size; omega) w.heap.size 0 0 (.bool true) ⟨#[]⟩ la1 ln1 lc1 rows (HT3.out.up (below_up hb4 hb5)) (rangeAt_up hb5 q1 4 _ rfl) (Hp.out.l.up hbw) (Hp.out.each.up hbw) _ _ _ _ _ _ _ _ _ _ _ _ _ _ _ _ _ _ _ _ _ _ _ _ _ _ _ _ _ _ _ _ _ _ _ _ _ _ _ _ _ _ _ _ _ _ _ _ _ _ _ _ _ _ _ _ _ _ _ _ _ _ _ _ _ _ _ _ _ _ _ _
theorem right_k2 (S : Nat → Prop) (x : It) (ih : ∀ y ∈ x.l, RiC S y) (hk : x.k = 2) : RiC S x := by
  intro r w hr hcx hkw hT hSk; obtain ⟨k1, n1, ba1, bn1, bc1, s1, la1, ln1, lc1, rfl⟩ := hr.shape; obtain ⟨rows, p⟩ := hr.parts; have hB1 := below_alloc w (.cells (rwC ⟨k1, n1, .slice ba1 bn1 bc1, s1, .slice la1 ln1 lc1⟩).toArray 62); have e1 := rangeAt_new w (rwC ⟨k1, n1, .slice ba1 bn1 bc1, s1, .slice la1 ln1 lc1⟩) 62 (0, 0)
  have hk1 : k1 = 2 := by rw [← hk]; exact p.k
  subst hk1; have Hr := Lib.hid hr; have Hp := Lib.hid p; have KK : Keyed Tryz.prog 60 := int_keyed Tryz.underlying60; clear hr p; refine calls_of_wpK Tryz.func135 rfl ?_; simp only [Tryz.ntmps135, List.size_toArray, List.length_cons, List.length_nil, Nat.reduceAdd, Nat.reduceSub, Array.replicate_succ, Array.replicate_zero, List.push_toArray, List.append_toArray, List.nil_append, List.cons_append]
  refine wpK_seq_k fun K hK => ?_
  go_wp2
  refine wpK_seq_k fun K hK => ?_
  refine wp_onlyN (wp_region_pi [(1, false), (2, false), (0, true), (3, false), (4, false), (5, false), (6, false), (7, false), (8, false)] (by kernel_rfl) (by kernel_rfl) (by kernel_rfl) rfl onlyN_panic (fun Wd hBd => ?_))
  try simp only [zq]
  have hrd := rangeAt_up hBd e1
  have c1 : ∀ w', Below Wd.heap.size Wd w' → w'.cell? ⟨w.heap.size, 0 + 0, none⟩ = some (.int .i64 2) := fun w' h => rangeAt_up h hrd 0 _ rfl
  simp only [Nat.add_zero] at c1; refine zi rfl (by rfl) ?_; refine zi rfl (by rfl) ?_; refine pi_call rfl (by rfl) ((writes_c Wd)) enters_writes (by rfl) (by kernel_rfl) ?_; rintro en wN ⟨rfl, hm1, hb1⟩; refine ⟨_, rfl, hb1, ?_⟩
  try simp only [zq]
  have hlk : ∀ w', Below wN.heap.size wN w' → (Instr.lookup 192 (.map (some Wd.heap.size)) (.int .i64 2) true).run Tryz.prog w' = .ok (.tuple #[.func (.func 170) #[] #[], .bool true]) w' := fun w' h => MapAt.look_some (hm1.heap (h.block _ hm1.lt)) KK Tryz.underlying192 (keyOf_int_mk (a := 2) Tryz.underlying60 (by decide)) (by simp [wEnts]) true
  iterate 6
    refine zi rfl (by rfl) ?_
  refine pi_nilN ?_; go_wp2
  refine wpK_seq_k fun K hK => ?_
  have hBN := below_up (below_up hB1 hBd) hb1; have hrN := rangeAt_up hb1 hrd; have r0 := hrN 0 _ rfl; have r1 := hrN 1 _ rfl; have r2 := hrN 2 _ rfl; have r3 := hrN 3 _ rfl; have r4 := hrN 4 _ rfl; simp only [Nat.add_zero] at r0; go_wp2
  refine wpK_seq_k fun K hK => ?_
  go_wp2
  refine wpK_seq_k fun K hK => ?_
  obtain ⟨f, hf⟩ : ∃ f, (runes s1).2 = f := ⟨_, rfl⟩; have hs1 : s1 = x.s := Hp.out.s
  have hsz : s1.size ≤ 9223372036854775807 := by rw [hs1]; cases x; simp only [cnt, It.s] at *; omega
  have hB3 : Below w.heap.size w (wN.alloc (.cells (rwC ⟨2, 0, .slice ba1 bn1 bc1, ⟨#[]⟩, .slice none 0 0⟩).toArray 62)) := hBN.alloc hBN.size _; have hT3 := hT.up hB3; have q1 := rangeAt_up (below_alloc wN (.cells (rwC ⟨2, 0, .slice ba1 bn1 bc1, ⟨#[]⟩, .slice none 0 0⟩).toArray 62)) hrN; have q2 := rangeAt_new wN (rwC ⟨2, 0, .slice ba1 bn1 bc1, ⟨#[]⟩, .slice none 0 0⟩) 62 (0, 0); have hrun := runes_c s1 _ hsz hT3; rw [hf] at hrun; obtain ⟨rn, hrn⟩ : ∃ rn : Nat, (runes s1).1 = rn := ⟨_, rfl⟩; rw [hrn] at hrun; clear hrn; have hmy := mask_it (Hr.out.up hB3); simp only [hk, show ((2 : Int) = 1) = False by decide, show ((2 : Int) = 2) = True by decide, show ((2 : Int) = 3) = False by decide, show ((2 : Int) = 4) = False by decide, show ((2 : Int) = 5) = False by decide, or_true, true_or, or_false, false_or, or_self, if_true, if_false] at hmy
  have hxy := Hr.out.up hB3
  have hsm := fun w' (hb : Below (wN.alloc (.cells (rwC ⟨2, 0, .slice ba1 bn1 bc1, ⟨#[]⟩, .slice none 0 0⟩).toArray 62)).heap.size _ w') => cbSame_c S x (mask x) ⟨2, n1, .slice ba1 bn1 bc1, s1, .slice la1 ln1 lc1⟩ ⟨2, 0, .slice ba1 bn1 bc1, ⟨#[]⟩, .slice none 0 0⟩ w' (hxy.up hb) (hmy.up hb) hcx (by have := mask_cnt x; omega)
  have hbr := mask_same x; obtain ⟨z, hz⟩ : ∃ z, sameB x (mask x) = z := ⟨_, rfl⟩; rw [hz] at hsm hbr; have HRB := Lib.hid (right_is x (f := f) (z := z) (by rw [← hs1]; exact hf) hbr.symm); have Hxy := Lib.hid hxy; have HB3 := Lib.hid hB3; have HT3 := Lib.hid hT3; have HSM := Lib.hid hsm; have c3 := q1 3 _ rfl; obtain ⟨W3, hW3⟩ : ∃ W3, wN.alloc (.cells #[.int .i64 2, .int .u64 0, .slice ba1 bn1 bc1, .string ⟨#[]⟩, .slice none 0 0] 62) = W3 := ⟨_, rfl⟩; change wN.alloc (.cells (rwC ⟨2, 0, .slice ba1 bn1 bc1, ⟨#[]⟩, .slice none 0 0⟩).toArray 62) = W3 at hW3; rw [hW3] at Hxy HB3 HT3 HSM hrun q1 q2 c3; change wN.alloc (.cells #[.int .i64 2, .int .u64 0, .slice ba1 bn1 bc1, .string ⟨#[]⟩, .slice none 0 0] 62) = W3 at hW3; rw [hW3]; clear hW3; clear hs1 hrN r0 r1 r2 r3 r4 hrd c1 hlk hf hz hbr hmy hxy hB3 hT3 hsm hsz e1; cases f
  · have HN := Lib.hid (show rightB x = false by simp [HRB.out])
    go_wp2_with (go_at_call 147; refine hrun.mono ?_; rintro en w4 ⟨rfl, hb4⟩)
    refine wpK_seq_k fun K hK => ?_
    go_wp2_with (go_at_call 125; refine (must_no 2 _).mono ?_; rintro en w6 ⟨rfl, rfl⟩)
    exact ⟨below_up HB3.out hb4, by rw [HN.out]; rfl⟩
  · go_wp2_with (go_at_call 147; refine hrun.mono ?_; rintro en w4 ⟨rfl, hb4⟩)
    refine wpK_seq_k fun K hK => ?_
    have q1 := rangeAt_up hb4 q1; have q2 := rangeAt_up hb4 q2; have a0 := q1 0 _ rfl; have y0 := q2 0 _ rfl; have a1 := q1 1 _ rfl; have y1 := q2 1 _ rfl; have a2 := q1 2 _ rfl; have y2 := q2 2 _ rfl; have a3 := q1 3 _ rfl; have y3 := q2 3 _ rfl; have a4 := q1 4 _ rfl; have y4 := q2 4 _ rfl; simp only [Nat.zero_add] at a0 a1 a2 a3 a4 y0 y1 y2 y3 y4; cases z
    · have HN := Lib.hid (show rightB x = false by simp [HRB.out])
      go_wp2_with (first
      | (go_at_call 156; refine (HSM.out _ hb4).mono ?_; rintro en w5 ⟨rfl, hb5⟩; have d0 := rangeAt_up hb5 q1 0 _ rfl; have d1 := rangeAt_up hb5 q1 1 _ rfl; simp only [Nat.zero_add] at d0 d1)
      | (go_at_call 125; refine (must_no 2 _).mono ?_; rintro en w6 ⟨rfl, rfl⟩))
      exact ⟨below_up HB3.out (below_up hb4 hb5), by rw [HN.out]; rfl⟩
    · have HY := Lib.hid (show rightB x = rightL x.l by simp [HRB.out, hk])
      go_wp2_with (first
        | (go_at_call 156; refine (HSM.out _ hb4).mono ?_; rintro en w5 ⟨rfl, hb5⟩; have d0 := rangeAt_up hb5 q1 0 _ rfl; have d1 := rangeAt_up hb5 q1 1 _ rfl; simp only [Nat.zero_add] at d0 d1)
        | (go_at_call 125; refine (must_yes 2 _).mono ?_; rintro en w6 ⟨rfl, rfl⟩))
      rw [HY.out]; have hbw := below_up HB3.out (below_up hb4 hb5)
      have hcl : cntL x.l ≤ 1000000 := by have := cnt_eq x; omega
      exact right_tail S x.l ih hcl ((kwB_eq x).1 hkw).2 w w5 hbw (fun q hq => by have := hSk q hq; have := hbw.size; omega) w.heap.size 0 0 (.bool true) ⟨#[]⟩ la1 ln1 lc1 rows (HT3.out.up (below_up hb4 hb5)) (rangeAt_up hb5 q1 4 _ rfl) (Hp.out.l.up hbw) (Hp.out.each.up hbw) _ _ _ _ _ _ _ _ _ _ _ _ _ _ _ _ _ _ _ _ _ _ _ _ _ _ _ _ _ _ _ _ _ _ _ _ _ _ _ _ _ _ _ _ _ _ _ _ _ _ _ _ _ _ _ _ _ _ _ _ _ _ _ _ _ _ _ _ _ _ _ _
theorem right_k3 (S : Nat → Prop) (x : It) (ih : ∀ y ∈ x.l, RiC S y) (hk : x.k = 3) : RiC S x := by
  intro r w hr hcx hkw hT hSk; obtain ⟨k1, n1, ba1, bn1, bc1, s1, la1, ln1, lc1, rfl⟩ := hr.shape; obtain ⟨rows, p⟩ := hr.parts; have hB1 := below_alloc w (.cells (rwC ⟨k1, n1, .slice ba1 bn1 bc1, s1, .slice la1 ln1 lc1⟩).toArray 62); have e1 := rangeAt_new w (rwC ⟨k1, n1, .slice ba1 bn1 bc1, s1, .slice la1 ln1 lc1⟩) 62 (0, 0)
  have hk1 : k1 = 3 := by rw [← hk]; exact p.k
  subst hk1; have Hr := Lib.hid hr; have Hp := Lib.hid p; have KK : Keyed Tryz.prog 60 := int_keyed Tryz.underlying60; clear hr p; refine calls_of_wpK Tryz.func135 rfl ?_; simp only [Tryz.ntmps135, List.size_toArray, List.length_cons, List.length_nil, Nat.reduceAdd, Nat.reduceSub, Array.replicate_succ, Array.replicate_zero, List.push_toArray, List.append_toArray, List.nil_append, List.cons_append]
  refine wpK_seq_k fun K hK => ?_
  go_wp2
  refine wpK_seq_k fun K hK => ?_
  refine wp_onlyN (wp_region_pi [(1, false), (2, false), (0, true), (3, false), (4, false), (5, false), (6, false), (7, false), (8, false)] (by kernel_rfl) (by kernel_rfl) (by kernel_rfl) rfl onlyN_panic (fun Wd hBd => ?_))
  try simp only [zq]
  have hrd := rangeAt_up hBd e1
  have c1 : ∀ w', Below Wd.heap.size Wd w' → w'.cell? ⟨w.heap.size, 0 + 0, none⟩ = some (.int .i64 3) := fun w' h => rangeAt_up h hrd 0 _ rfl
  simp only [Nat.add_zero] at c1; refine zi rfl (by rfl) ?_; refine zi rfl (by rfl) ?_; refine pi_call rfl (by rfl) ((writes_c Wd)) enters_writes (by rfl) (by kernel_rfl) ?_; rintro en wN ⟨rfl, hm1, hb1⟩; refine ⟨_, rfl, hb1, ?_⟩
  try simp only [zq]
  have hlk : ∀ w', Below wN.heap.size wN w' → (Instr.lookup 192 (.map (some Wd.heap.size)) (.int .i64 3) true).run Tryz.prog w' = .ok (.tuple #[.func (.func 172) #[] #[], .bool true]) w' := fun w' h => MapAt.look_some (hm1.heap (h.block _ hm1.lt)) KK Tryz.underlying192 (keyOf_int_mk (a := 3) Tryz.underlying60 (by decide)) (by simp [wEnts]) true
  iterate 6
    refine zi rfl (by rfl) ?_
  refine pi_nilN ?_; go_wp2
  refine wpK_seq_k fun K hK => ?_
  have hBN := below_up (below_up hB1 hBd) hb1; have hrN := rangeAt_up hb1 hrd; have r0 := hrN 0 _ rfl; have r1 := hrN 1 _ rfl; have r2 := hrN 2 _ rfl; have r3 := hrN 3 _ rfl; have r4 := hrN 4 _ rfl; simp only [Nat.add_zero] at r0; go_wp2
  refine wpK_seq_k fun K hK => ?_
  go_wp2
  refine wpK_seq_k fun K hK => ?_
  obtain ⟨f, hf⟩ : ∃ f, (runes s1).2 = f := ⟨_, rfl⟩; have hs1 : s1 = x.s := Hp.out.s
  have hsz : s1.size ≤ 9223372036854775807 := by rw [hs1]; cases x; simp only [cnt, It.s] at *; omega
  have hB3 : Below w.heap.size w (wN.alloc (.cells (rwC ⟨3, 0, .slice none 0 0, s1, .slice none 0 0⟩).toArray 62)) := hBN.alloc hBN.size _; have hT3 := hT.up hB3; have q1 := rangeAt_up (below_alloc wN (.cells (rwC ⟨3, 0, .slice none 0 0, s1, .slice none 0 0⟩).toArray 62)) hrN; have q2 := rangeAt_new wN (rwC ⟨3, 0, .slice none 0 0, s1, .slice none 0 0⟩) 62 (0, 0); have hrun := runes_c s1 _ hsz hT3; rw [hf] at hrun; obtain ⟨rn, hrn⟩ : ∃ rn : Nat, (runes s1).1 = rn := ⟨_, rfl⟩; rw [hrn] at hrun; clear hrn; have hmy := mask_it (Hr.out.up hB3); simp only [hk, show ((3 : Int) = 1) = False by decide, show ((3 : Int) = 2) = False by decide, show ((3 : Int) = 3) = True by decide, show ((3 : Int) = 4) = False by decide, show ((3 : Int) = 5) = False by decide, or_true, true_or, or_false, false_or, or_self, if_true, if_false] at hmy; have hxy := Hr.out.up hB3
  have hsm := fun w' (hb : Below (wN.alloc (.cells (rwC ⟨3, 0, .slice none 0 0, s1, .slice none 0 0⟩).toArray 62)).heap.size _ w') => cbSame_c S x (mask x) ⟨3, n1, .slice ba1 bn1 bc1, s1, .slice la1 ln1 lc1⟩ ⟨3, 0, .slice none 0 0, s1, .slice none 0 0⟩ w' (hxy.up hb) (hmy.up hb) hcx (by have := mask_cnt x; omega)
  have hbr := mask_same x; obtain ⟨z, hz⟩ : ∃ z, sameB x (mask x) = z := ⟨_, rfl⟩; rw [hz] at hsm hbr; have HRB := Lib.hid (right_is x (f := f) (z := z) (by rw [← hs1]; exact hf) hbr.symm); have Hxy := Lib.hid hxy; have HB3 := Lib.hid hB3; have HT3 := Lib.hid hT3; have HSM := Lib.hid hsm; have c3 := q1 3 _ rfl; obtain ⟨W3, hW3⟩ : ∃ W3, wN.alloc (.cells #[.int .i64 3, .int .u64 0, .slice none 0 0, .string s1, .slice none 0 0] 62) = W3 := ⟨_, rfl⟩; change wN.alloc (.cells (rwC ⟨3, 0, .slice none 0 0, s1, .slice none 0 0⟩).toArray 62) = W3 at hW3; rw [hW3] at Hxy HB3 HT3 HSM hrun q1 q2 c3; change wN.alloc (.cells #[.int .i64 3, .int .u64 0, .slice none 0 0, .string s1, .slice none 0 0] 62) = W3 at hW3; rw [hW3]; clear hW3; clear hs1 hrN r0 r1 r2 r3 r4 hrd c1 hlk hf hz hbr hmy hxy hB3 hT3 hsm hsz e1; cases f
  · have HN := Lib.hid (show rightB x = false by simp [HRB.out])
    go_wp2_with (go_at_call 147; refine hrun.mono ?_; rintro en w4 ⟨rfl, hb4⟩)
    refine wpK_seq_k fun K hK => ?_
    go_wp2_with (go_at_call 125; refine (must_no 2 _).mono ?_; rintro en w6 ⟨rfl, rfl⟩)
    exact ⟨below_up HB3.out hb4, by rw [HN.out]; rfl⟩
  · go_wp2_with (go_at_call 147; refine hrun.mono ?_; rintro en w4 ⟨rfl, hb4⟩)
    refine wpK_seq_k fun K hK => ?_
    have q1 := rangeAt_up hb4 q1; have q2 := rangeAt_up hb4 q2; have a0 := q1 0 _ rfl; have y0 := q2 0 _ rfl; have a1 := q1 1 _ rfl; have y1 := q2 1 _ rfl; have a2 := q1 2 _ rfl; have y2 := q2 2 _ rfl; have a3 := q1 3 _ rfl; have y3 := q2 3 _ rfl; have a4 := q1 4 _ rfl; have y4 := q2 4 _ rfl; simp only [Nat.zero_add] at a0 a1 a2 a3 a4 y0 y1 y2 y3 y4; cases z
    · have HN := Lib.hid (show rightB x = false by simp [HRB.out])
      go_wp2_with (first
      | (go_at_call 156; refine (HSM.out _ hb4).mono ?_; rintro en w5 ⟨rfl, hb5⟩; have d0 := rangeAt_up hb5 q1 0 _ rfl; have d1 := rangeAt_up hb5 q1 1 _ rfl; simp only [Nat.zero_add] at d0 d1)
      | (go_at_call 125; refine (must_no 2 _).mono ?_; rintro en w6 ⟨rfl, rfl⟩))
      exact ⟨below_up HB3.out (below_up hb4 hb5), by rw [HN.out]; rfl⟩
    · have HY := Lib.hid (show rightB x = rightL x.l by simp [HRB.out, hk])
      go_wp2_with (first
        | (go_at_call 156; refine (HSM.out _ hb4).mono ?_; rintro en w5 ⟨rfl, hb5⟩; have d0 := rangeAt_up hb5 q1 0 _ rfl; have d1 := rangeAt_up hb5 q1 1 _ rfl; simp only [Nat.zero_add] at d0 d1)
        | (go_at_call 125; refine (must_yes 2 _).mono ?_; rintro en w6 ⟨rfl, rfl⟩))
      rw [HY.out]; have hbw := below_up HB3.out (below_up hb4 hb5)
      have hcl : cntL x.l ≤ 1000000 := by have := cnt_eq x; omega
      exact right_tail S x.l ih hcl ((kwB_eq x).1 hkw).2 w w5 hbw (fun q hq => by have := hSk q hq; have := hbw.size; omega) w.heap.size 0 0 (.bool true) ⟨#[]⟩ la1 ln1 lc1 rows (HT3.out.up (below_up hb4 hb5)) (rangeAt_up hb5 q1 4 _ rfl) (Hp.out.l.up hbw) (Hp.out.each.up hbw) _ _ _ _ _ _ _ _ _ _ _ _ _ _ _ _ _ _ _ _ _ _ _ _ _ _ _ _ _ _ _ _ _ _ _ _ _ _ _ _ _ _ _ _ _ _ _ _ _ _ _ _ _ _ _ _ _ _ _ _ _ _ _ _ _ _ _ _ _ _ _ _
theorem right_k4 (S : Nat → Prop) (x : It) (ih : ∀ y ∈ x.l, RiC S y) (hk : x.k = 4) : RiC S x := by
  intro r w hr hcx hkw hT hSk; obtain ⟨k1, n1, ba1, bn1, bc1, s1, la1, ln1, lc1, rfl⟩ := hr.shape; obtain ⟨rows, p⟩ := hr.parts; have hB1 := below_alloc w (.cells (rwC ⟨k1, n1, .slice ba1 bn1 bc1, s1, .slice la1 ln1 lc1⟩).toArray 62); have e1 := rangeAt_new w (rwC ⟨k1, n1, .slice ba1 bn1 bc1, s1, .slice la1 ln1 lc1⟩) 62 (0, 0)
  have hk1 : k1 = 4 := by rw [← hk]; exact p.k
  subst hk1; have Hr := Lib.hid hr; have Hp := Lib.hid p; have KK : Keyed Tryz.prog 60 := int_keyed Tryz.underlying60; clear hr p; refine calls_of_wpK Tryz.func135 rfl ?_; simp only [Tryz.ntmps135, List.size_toArray, List.length_cons, List.length_nil, Nat.reduceAdd, Nat.reduceSub, Array.replicate_succ, Array.replicate_zero, List.push_toArray, List.append_toArray, List.nil_append, List.cons_append]
  refine wpK_seq_k fun K hK => ?_
  go_wp2
  refine wpK_seq_k fun K hK => ?_
  refine wp_onlyN (wp_region_pi [(1, false), (2, false), (0, true), (3, false), (4, false), (5, false), (6, false), (7, false), (8, false)] (by kernel_rfl) (by kernel_rfl) (by kernel_rfl) rfl onlyN_panic (fun Wd hBd => ?_))
  try simp only [zq]
  have hrd := rangeAt_up hBd e1
  have c1 : ∀ w', Below Wd.heap.size Wd w' → w'.cell? ⟨w.heap.size, 0 + 0, none⟩ = some (.int .i64 4) := fun w' h => rangeAt_up h hrd 0 _ rfl
  simp only [Nat.add_zero] at c1; refine zi rfl (by rfl) ?_; refine zi rfl (by rfl) ?_; refine pi_call rfl (by rfl) ((writes_c Wd)) enters_writes (by rfl) (by kernel_rfl) ?_; rintro en wN ⟨rfl, hm1, hb1⟩; refine ⟨_, rfl, hb1, ?_⟩
  try simp only [zq]
  have hlk : ∀ w', Below wN.heap.size wN w' → (Instr.lookup 192 (.map (some Wd.heap.size)) (.int .i64 4) true).run Tryz.prog w' = .ok (.tuple #[.func (.func 173) #[] #[], .bool true]) w' := fun w' h => MapAt.look_some (hm1.heap (h.block _ hm1.lt)) KK Tryz.underlying192 (keyOf_int_mk (a := 4) Tryz.underlying60 (by decide)) (by simp [wEnts]) true
  iterate 6
    refine zi rfl (by rfl) ?_
  refine pi_nilN ?_; go_wp2
  refine wpK_seq_k fun K hK => ?_
  have hBN := below_up (below_up hB1 hBd) hb1; have hrN := rangeAt_up hb1 hrd; have r0 := hrN 0 _ rfl; have r1 := hrN 1 _ rfl; have r2 := hrN 2 _ rfl; have r3 := hrN 3 _ rfl; have r4 := hrN 4 _ rfl; simp only [Nat.add_zero] at r0; go_wp2
  refine wpK_seq_k fun K hK => ?_
  go_wp2
  refine wpK_seq_k fun K hK => ?_
  obtain ⟨f, hf⟩ : ∃ f, (runes s1).2 = f := ⟨_, rfl⟩; have hs1 : s1 = x.s := Hp.out.s
  have hsz : s1.size ≤ 9223372036854775807 := by rw [hs1]; cases x; simp only [cnt, It.s] at *; omega
  have hB3 : Below w.heap.size w (wN.alloc (.cells (rwC ⟨4, 0, .slice none 0 0, ⟨#[]⟩, .slice la1 ln1 lc1⟩).toArray 62)) := hBN.alloc hBN.size _; have hT3 := hT.up hB3; have q1 := rangeAt_up (below_alloc wN (.cells (rwC ⟨4, 0, .slice none 0 0, ⟨#[]⟩, .slice la1 ln1 lc1⟩).toArray 62)) hrN; have q2 := rangeAt_new wN (rwC ⟨4, 0, .slice none 0 0, ⟨#[]⟩, .slice la1 ln1 lc1⟩) 62 (0, 0); have hrun := runes_c s1 _ hsz hT3; rw [hf] at hrun; obtain ⟨rn, hrn⟩ : ∃ rn : Nat, (runes s1).1 = rn := ⟨_, rfl⟩; rw [hrn] at hrun; clear hrn; have hmy := mask_it (Hr.out.up hB3); simp only [hk, show ((4 : Int) = 1) = False by decide, show ((4 : Int) = 2) = False by decide, show ((4 : Int) = 3) = False by decide, show ((4 : Int) = 4) = True by decide, show ((4 : Int) = 5) = False by decide, or_true, true_or, or_false, false_or, or_self, if_true, if_false] at hmy
  have hxy := Hr.out.up hB3
  have hsm := fun w' (hb : Below (wN.alloc (.cells (rwC ⟨4, 0, .slice none 0 0, ⟨#[]⟩, .slice la1 ln1 lc1⟩).toArray 62)).heap.size _ w') => cbSame_c S x (mask x) ⟨4, n1, .slice ba1 bn1 bc1, s1, .slice la1 ln1 lc1⟩ ⟨4, 0, .slice none 0 0, ⟨#[]⟩, .slice la1 ln1 lc1⟩ w' (hxy.up hb) (hmy.up hb) hcx (by have := mask_cnt x; omega)
  have hbr := mask_same x; obtain ⟨z, hz⟩ : ∃ z, sameB x (mask x) = z := ⟨_, rfl⟩; rw [hz] at hsm hbr; have HRB := Lib.hid (right_is x (f := f) (z := z) (by rw [← hs1]; exact hf) hbr.symm); have Hxy := Lib.hid hxy; have HB3 := Lib.hid hB3; have HT3 := Lib.hid hT3; have HSM := Lib.hid hsm; have c3 := q1 3 _ rfl; obtain ⟨W3, hW3⟩ : ∃ W3, wN.alloc (.cells #[.int .i64 4, .int .u64 0, .slice none 0 0, .string ⟨#[]⟩, .slice la1 ln1 lc1] 62) = W3 := ⟨_, rfl⟩; change wN.alloc (.cells (rwC ⟨4, 0, .slice none 0 0, ⟨#[]⟩, .slice la1 ln1 lc1⟩).toArray 62) = W3 at hW3; rw [hW3] at Hxy HB3 HT3 HSM hrun q1 q2 c3; change wN.alloc (.cells #[.int .i64 4, .int .u64 0, .slice none 0 0, .string ⟨#[]⟩, .slice la1 ln1 lc1] 62) = W3 at hW3; rw [hW3]; clear hW3; clear hs1 hrN r0 r1 r2 r3 r4 hrd c1 hlk hf hz hbr hmy hxy hB3 hT3 hsm hsz e1; cases f
  · have HN := Lib.hid (show rightB x = false by simp [HRB.out])
    go_wp2_with (go_at_call 147; refine hrun.mono ?_; rintro en w4 ⟨rfl, hb4⟩)
    refine wpK_seq_k fun K hK => ?_
    go_wp2_with (go_at_call 125; refine (must_no 2 _).mono ?_; rintro en w6 ⟨rfl, rfl⟩)
    exact ⟨below_up HB3.out hb4, by rw [HN.out]; rfl⟩
  · go_wp2_with (go_at_call 147; refine hrun.mono ?_; rintro en w4 ⟨rfl, hb4⟩)
    refine wpK_seq_k fun K hK => ?_
    have q1 := rangeAt_up hb4 q1; have q2 := rangeAt_up hb4 q2; have a0 := q1 0 _ rfl; have y0 := q2 0 _ rfl; have a1 := q1 1 _ rfl; have y1 := q2 1 _ rfl; have a2 := q1 2 _ rfl; have y2 := q2 2 _ rfl; have a3 := q1 3 _ rfl; have y3 := q2 3 _ rfl; have a4 := q1 4 _ rfl; have y4 := q2 4 _ rfl; simp only [Nat.zero_add] at a0 a1 a2 a3 a4 y0 y1 y2 y3 y4; cases z
    · have HN := Lib.hid (show rightB x = false by simp [HRB.out])
      go_wp2_with (first
      | (go_at_call 156; refine (HSM.out _ hb4).mono ?_; rintro en w5 ⟨rfl, hb5⟩; have d0 := rangeAt_up hb5 q1 0 _ rfl; have d1 := rangeAt_up hb5 q1 1 _ rfl; simp only [Nat.zero_add] at d0 d1)
      | (go_at_call 125; refine (must_no 2 _).mono ?_; rintro en w6 ⟨rfl, rfl⟩))
      exact ⟨below_up HB3.out (below_up hb4 hb5), by rw [HN.out]; rfl⟩
    · have HY := Lib.hid (show rightB x = rightL x.l by simp [HRB.out, hk])
      go_wp2_with (first
        | (go_at_call 156; refine (HSM.out _ hb4).mono ?_; rintro en w5 ⟨rfl, hb5⟩; have d0 := rangeAt_up hb5 q1 0 _ rfl; have d1 := rangeAt_up hb5 q1 1 _ rfl; simp only [Nat.zero_add] at d0 d1)
        | (go_at_call 125; refine (must_yes 2 _).mono ?_; rintro en w6 ⟨rfl, rfl⟩))
      rw [HY.out]; have hbw := below_up HB3.out (below_up hb4 hb5)
      have hcl : cntL x.l ≤ 1000000 := by have := cnt_eq x; omega
      exact right_tail S x.l ih hcl ((kwB_eq x).1 hkw).2 w w5 hbw (fun q hq => by have := hSk q hq; have := hbw.size; omega) w.heap.size 0 0 (.bool true) ⟨#[]⟩ la1 ln1 lc1 rows (HT3.out.up (below_up hb4 hb5)) (rangeAt_up hb5 q1 4 _ rfl) (Hp.out.l.up hbw) (Hp.out.each.up hbw) _ _ _ _ _ _ _ _ _ _ _ _ _ _ _ _ _ _ _ _ _ _ _ _ _ _ _ _ _ _ _ _ _ _ _ _ _ _ _ _ _ _ _ _ _ _ _ _ _ _ _ _ _ _ _ _ _ _ _ _ _ _ _ _ _ _ _ _ _ _ _ _
theorem right_k5 (S : Nat → Prop) (x : It) (ih : ∀ y ∈ x.l, RiC S y) (hk : x.k = 5) : RiC S x := by
  intro r w hr hcx hkw hT hSk; obtain ⟨k1, n1, ba1, bn1, bc1, s1, la1, ln1, lc1, rfl⟩ := hr.shape; obtain ⟨rows, p⟩ := hr.parts; have hB1 := below_alloc w (.cells (rwC ⟨k1, n1, .slice ba1 bn1 bc1, s1, .slice la1 ln1 lc1⟩).toArray 62); have e1 := rangeAt_new w (rwC ⟨k1, n1, .slice ba1 bn1 bc1, s1, .slice la1 ln1 lc1⟩) 62 (0, 0)
  have hk1 : k1 = 5 := by rw [← hk]; exact p.k
  subst hk1; have Hr := Lib.hid hr; have Hp := Lib.hid p; have KK : Keyed Tryz.prog 60 := int_keyed Tryz.underlying60; clear hr p; refine calls_of_wpK Tryz.func135 rfl ?_; simp only [Tryz.ntmps135, List.size_toArray, List.length_cons, List.length_nil, Nat.reduceAdd, Nat.reduceSub, Array.replicate_succ, Array.replicate_zero, List.push_toArray, List.append_toArray, List.nil_append, List.cons_append]
  refine wpK_seq_k fun K hK => ?_
  go_wp2
  refine wpK_seq_k fun K hK => ?_
  refine wp_onlyN (wp_region_pi [(1, false), (2, false), (0, true), (3, false), (4, false), (5, false), (6, false), (7, false), (8, false)] (by kernel_rfl) (by kernel_rfl) (by kernel_rfl) rfl onlyN_panic (fun Wd hBd => ?_))
  try simp only [zq]
  have hrd := rangeAt_up hBd e1
  have c1 : ∀ w', Below Wd.heap.size Wd w' → w'.cell? ⟨w.heap.size, 0 + 0, none⟩ = some (.int .i64 5) := fun w' h => rangeAt_up h hrd 0 _ rfl
  simp only [Nat.add_zero] at c1; refine zi rfl (by rfl) ?_; refine zi rfl (by rfl) ?_; refine pi_call rfl (by rfl) ((writes_c Wd)) enters_writes (by rfl) (by kernel_rfl) ?_; rintro en wN ⟨rfl, hm1, hb1⟩; refine ⟨_, rfl, hb1, ?_⟩
  try simp only [zq]
  have hlk : ∀ w', Below wN.heap.size wN w' → (Instr.lookup 192 (.map (some Wd.heap.size)) (.int .i64 5) true).run Tryz.prog w' = .ok (.tuple #[.func (.func 175) #[] #[], .bool true]) w' := fun w' h => MapAt.look_some (hm1.heap (h.block _ hm1.lt)) KK Tryz.underlying192 (keyOf_int_mk (a := 5) Tryz.underlying60 (by decide)) (by simp [wEnts]) true
  iterate 6
    refine zi rfl (by rfl) ?_
  refine pi_nilN ?_; go_wp2
  refine wpK_seq_k fun K hK => ?_
  have hBN := below_up (below_up hB1 hBd) hb1; have hrN := rangeAt_up hb1 hrd; have r0 := hrN 0 _ rfl; have r1 := hrN 1 _ rfl; have r2 := hrN 2 _ rfl; have r3 := hrN 3 _ rfl; have r4 := hrN 4 _ rfl; simp only [Nat.add_zero] at r0; go_wp2
  refine wpK_seq_k fun K hK => ?_
  go_wp2
  refine wpK_seq_k fun K hK => ?_
  obtain ⟨f, hf⟩ : ∃ f, (runes s1).2 = f := ⟨_, rfl⟩; have hs1 : s1 = x.s := Hp.out.s
  have hsz : s1.size ≤ 9223372036854775807 := by rw [hs1]; cases x; simp only [cnt, It.s] at *; omega
  have hB3 : Below w.heap.size w (wN.alloc (.cells (rwC ⟨5, n1, .slice none 0 0, ⟨#[]⟩, .slice none 0 0⟩).toArray 62)) := hBN.alloc hBN.size _; have hT3 := hT.up hB3; have q1 := rangeAt_up (below_alloc wN (.cells (rwC ⟨5, n1, .slice none 0 0, ⟨#[]⟩, .slice none 0 0⟩).toArray 62)) hrN; have q2 := rangeAt_new wN (rwC ⟨5, n1, .slice none 0 0, ⟨#[]⟩, .slice none 0 0⟩) 62 (0, 0); have hrun := runes_c s1 _ hsz hT3; rw [hf] at hrun; obtain ⟨rn, hrn⟩ : ∃ rn : Nat, (runes s1).1 = rn := ⟨_, rfl⟩; rw [hrn] at hrun; clear hrn; have hmy := mask_it (Hr.out.up hB3); simp only [hk, show ((5 : Int) = 1) = False by decide, show ((5 : Int) = 2) = False by decide, show ((5 : Int) = 3) = False by decide, show ((5 : Int) = 4) = False by decide, show ((5 : Int) = 5) = True by decide, or_true, true_or, or_false, false_or, or_self, if_true, if_false] at hmy
  have hxy := Hr.out.up hB3
  have hsm := fun w' (hb : Below (wN.alloc (.cells (rwC ⟨5, n1, .slice none 0 0, ⟨#[]⟩, .slice none 0 0⟩).toArray 62)).heap.size _ w') => cbSame_c S x (mask x) ⟨5, n1, .slice ba1 bn1 bc1, s1, .slice la1 ln1 lc1⟩ ⟨5, n1, .slice none 0 0, ⟨#[]⟩, .slice none 0 0⟩ w' (hxy.up hb) (hmy.up hb) hcx (by have := mask_cnt x; omega)
  have hbr := mask_same x; obtain ⟨z, hz⟩ : ∃ z, sameB x (mask x) = z := ⟨_, rfl⟩; rw [hz] at hsm hbr; have HRB := Lib.hid (right_is x (f := f) (z := z) (by rw [← hs1]; exact hf) hbr.symm); have Hxy := Lib.hid hxy; have HB3 := Lib.hid hB3; have HT3 := Lib.hid hT3; have HSM := Lib.hid hsm; have c3 := q1 3 _ rfl; obtain ⟨W3, hW3⟩ : ∃ W3, wN.alloc (.cells #[.int .i64 5, .int .u64 n1, .slice none 0 0, .string ⟨#[]⟩, .slice none 0 0] 62) = W3 := ⟨_, rfl⟩; change wN.alloc (.cells (rwC ⟨5, n1, .slice none 0 0, ⟨#[]⟩, .slice none 0 0⟩).toArray 62) = W3 at hW3; rw [hW3] at Hxy HB3 HT3 HSM hrun q1 q2 c3; change wN.alloc (.cells #[.int .i64 5, .int .u64 n1, .slice none 0 0, .string ⟨#[]⟩, .slice none 0 0] 62) = W3 at hW3; rw [hW3]; clear hW3; clear hs1 hrN r0 r1 r2 r3 r4 hrd c1 hlk hf hz hbr hmy hxy hB3 hT3 hsm hsz e1; cases f
  · have HN := Lib.hid (show rightB x = false by simp [HRB.out])
    go_wp2_with (go_at_call 147; refine hrun.mono ?_; rintro en w4 ⟨rfl, hb4⟩)
    refine wpK_seq_k fun K hK => ?_
    go_wp2_with (go_at_call 125; refine (must_no 2 _).mono ?_; rintro en w6 ⟨rfl, rfl⟩)
    exact ⟨below_up HB3.out hb4, by rw [HN.out]; rfl⟩
  · go_wp2_with (go_at_call 147; refine hrun.mono ?_; rintro en w4 ⟨rfl, hb4⟩)
    refine wpK_seq_k fun K hK => ?_
    have q1 := rangeAt_up hb4 q1; have q2 := rangeAt_up hb4 q2; have a0 := q1 0 _ rfl; have y0 := q2 0 _ rfl; have a1 := q1 1 _ rfl; have y1 := q2 1 _ rfl; have a2 := q1 2 _ rfl; have y2 := q2 2 _ rfl; have a3 := q1 3 _ rfl; have y3 := q2 3 _ rfl; have a4 := q1 4 _ rfl; have y4 := q2 4 _ rfl; simp only [Nat.zero_add] at a0 a1 a2 a3 a4 y0 y1 y2 y3 y4; cases z
    · have HN := Lib.hid (show rightB x = false by simp [HRB.out])
      go_wp2_with (first
      | (go_at_call 156; refine (HSM.out _ hb4).mono ?_; rintro en w5 ⟨rfl, hb5⟩; have d0 := rangeAt_up hb5 q1 0 _ rfl; have d1 := rangeAt_up hb5 q1 1 _ rfl; simp only [Nat.zero_add] at d0 d1)
      | (go_at_call 125; refine (must_no 2 _).mono ?_; rintro en w6 ⟨rfl, rfl⟩))
      exact ⟨below_up HB3.out (below_up hb4 hb5), by rw [HN.out]; rfl⟩
    · have hxn : n1 = x.n := Hp.out.n
      by_cases hn1 : n1 ≤ 1
      · have HY := Lib.hid (show rightB x = rightL x.l by rw [hxn] at hn1; simp [HRB.out, hk, hn1])
        clear hxn
        go_wp2_with (first
          | (go_at_call 156; refine (HSM.out _ hb4).mono ?_; rintro en w5 ⟨rfl, hb5⟩; have d0 := rangeAt_up hb5 q1 0 _ rfl; have d1 := rangeAt_up hb5 q1 1 _ rfl; simp only [Nat.zero_add] at d0 d1)
          | (go_at_call 125; refine (must_yes 2 _).mono ?_; rintro en w6 ⟨rfl, rfl⟩))
        rw [HY.out]; have hbw := below_up HB3.out (below_up hb4 hb5)
        have hcl : cntL x.l ≤ 1000000 := by have := cnt_eq x; omega
        exact right_tail S x.l ih hcl ((kwB_eq x).1 hkw).2 w w5 hbw (fun q hq => by have := hSk q hq; have := hbw.size; omega) w.heap.size 0 0 (.bool true) ⟨#[]⟩ la1 ln1 lc1 rows (HT3.out.up (below_up hb4 hb5)) (rangeAt_up hb5 q1 4 _ rfl) (Hp.out.l.up hbw) (Hp.out.each.up hbw) _ _ _ _ _ _ _ _ _ _ _ _ _ _ _ _ _ _ _ _ _ _ _ _ _ _ _ _ _ _ _ _ _ _ _ _ _ _ _ _ _ _ _ _ _ _ _ _ _ _ _ _ _ _ _ _ _ _ _ _ _ _ _ _ _ _ _ _ _ _ _ _
      · have HN := Lib.hid (show rightB x = false by rw [hxn] at hn1; simp [HRB.out, hk, hn1])
        have hdn : decide (n1 ≤ 1) = false := decide_eq_false hn1; clear hxn
        go_wp2_with (first
          | (go_at_call 156; refine (HSM.out _ hb4).mono ?_; rintro en w5 ⟨rfl, hb5⟩; have d0 := rangeAt_up hb5 q1 0 _ rfl; have d1 := rangeAt_up hb5 q1 1 _ rfl; simp only [Nat.zero_add] at d0 d1)
          | (go_at_call 125; refine (must_no 2 _).mono ?_; rintro en w6 ⟨rfl, rfl⟩))
        exact ⟨below_up HB3.out (below_up hb4 hb5), by rw [HN.out]; rfl⟩
theorem right_k6 (S : Nat → Prop) (x : It) (ih : ∀ y ∈ x.l, RiC S y) (hk : x.k = 6) : RiC S x := by
  intro r w hr hcx hkw hT hSk; obtain ⟨k1, n1, ba1, bn1, bc1, s1, la1, ln1, lc1, rfl⟩ := hr.shape; obtain ⟨rows, p⟩ := hr.parts; have hB1 := below_alloc w (.cells (rwC ⟨k1, n1, .slice ba1 bn1 bc1, s1, .slice la1 ln1 lc1⟩).toArray 62); have e1 := rangeAt_new w (rwC ⟨k1, n1, .slice ba1 bn1 bc1, s1, .slice la1 ln1 lc1⟩) 62 (0, 0)
  have hk1 : k1 = 6 := by rw [← hk]; exact p.k
  subst hk1; have Hr := Lib.hid hr; have Hp := Lib.hid p; have KK : Keyed Tryz.prog 60 := int_keyed Tryz.underlying60; clear hr p; refine calls_of_wpK Tryz.func135 rfl ?_; simp only [Tryz.ntmps135, List.size_toArray, List.length_cons, List.length_nil, Nat.reduceAdd, Nat.reduceSub, Array.replicate_succ, Array.replicate_zero, List.push_toArray, List.append_toArray, List.nil_append, List.cons_append]
  refine wpK_seq_k fun K hK => ?_
  go_wp2
  refine wpK_seq_k fun K hK => ?_
  refine wp_onlyN (wp_region_pi [(1, false), (2, false), (0, true), (3, false), (4, false), (5, false), (6, false), (7, false), (8, false)] (by kernel_rfl) (by kernel_rfl) (by kernel_rfl) rfl onlyN_panic (fun Wd hBd => ?_))
  try simp only [zq]
  have hrd := rangeAt_up hBd e1
  have c1 : ∀ w', Below Wd.heap.size Wd w' → w'.cell? ⟨w.heap.size, 0 + 0, none⟩ = some (.int .i64 6) := fun w' h => rangeAt_up h hrd 0 _ rfl
  simp only [Nat.add_zero] at c1; refine zi rfl (by rfl) ?_; refine zi rfl (by rfl) ?_; refine pi_call rfl (by rfl) ((writes_c Wd)) enters_writes (by rfl) (by kernel_rfl) ?_; rintro en wN ⟨rfl, hm1, hb1⟩; refine ⟨_, rfl, hb1, ?_⟩
  try simp only [zq]
  have hlk : ∀ w', Below wN.heap.size wN w' → (Instr.lookup 192 (.map (some Wd.heap.size)) (.int .i64 6) true).run Tryz.prog w' = .ok (.tuple #[.func (.func 176) #[] #[], .bool true]) w' := fun w' h => MapAt.look_some (hm1.heap (h.block _ hm1.lt)) KK Tryz.underlying192 (keyOf_int_mk (a := 6) Tryz.underlying60 (by decide)) (by simp [wEnts]) true
  iterate 6
    refine zi rfl (by rfl) ?_
  refine pi_nilN ?_; go_wp2
  refine wpK_seq_k fun K hK => ?_
  have hBN := below_up (below_up hB1 hBd) hb1; have hrN := rangeAt_up hb1 hrd; have r0 := hrN 0 _ rfl; have r1 := hrN 1 _ rfl; have r2 := hrN 2 _ rfl; have r3 := hrN 3 _ rfl; have r4 := hrN 4 _ rfl; simp only [Nat.add_zero] at r0; go_wp2
  refine wpK_seq_k fun K hK => ?_
  go_wp2
  refine wpK_seq_k fun K hK => ?_
  obtain ⟨f, hf⟩ : ∃ f, (runes s1).2 = f := ⟨_, rfl⟩; have hs1 : s1 = x.s := Hp.out.s
  have hsz : s1.size ≤ 9223372036854775807 := by rw [hs1]; cases x; simp only [cnt, It.s] at *; omega
  have hB3 : Below w.heap.size w (wN.alloc (.cells (rwC ⟨6, 0, .slice none 0 0, ⟨#[]⟩, .slice none 0 0⟩).toArray 62)) := hBN.alloc hBN.size _; have hT3 := hT.up hB3; have q1 := rangeAt_up (below_alloc wN (.cells (rwC ⟨6, 0, .slice none 0 0, ⟨#[]⟩, .slice none 0 0⟩).toArray 62)) hrN; have q2 := rangeAt_new wN (rwC ⟨6, 0, .slice none 0 0, ⟨#[]⟩, .slice none 0 0⟩) 62 (0, 0); have hrun := runes_c s1 _ hsz hT3; rw [hf] at hrun; obtain ⟨rn, hrn⟩ : ∃ rn : Nat, (runes s1).1 = rn := ⟨_, rfl⟩; rw [hrn] at hrun; clear hrn; have hmy := mask_it (Hr.out.up hB3); simp only [hk, show ((6 : Int) = 1) = False by decide, show ((6 : Int) = 2) = False by decide, show ((6 : Int) = 3) = False by decide, show ((6 : Int) = 4) = False by decide, show ((6 : Int) = 5) = False by decide, or_true, true_or, or_false, false_or, or_self, if_true, if_false] at hmy
  have hxy := Hr.out.up hB3
  have hsm := fun w' (hb : Below (wN.alloc (.cells (rwC ⟨6, 0, .slice none 0 0, ⟨#[]⟩, .slice none 0 0⟩).toArray 62)).heap.size _ w') => cbSame_c S x (mask x) ⟨6, n1, .slice ba1 bn1 bc1, s1, .slice la1 ln1 lc1⟩ ⟨6, 0, .slice none 0 0, ⟨#[]⟩, .slice none 0 0⟩ w' (hxy.up hb) (hmy.up hb) hcx (by have := mask_cnt x; omega)
  have hbr := mask_same x; obtain ⟨z, hz⟩ : ∃ z, sameB x (mask x) = z := ⟨_, rfl⟩; rw [hz] at hsm hbr; have HRB := Lib.hid (right_is x (f := f) (z := z) (by rw [← hs1]; exact hf) hbr.symm); have Hxy := Lib.hid hxy; have HB3 := Lib.hid hB3; have HT3 := Lib.hid hT3; have HSM := Lib.hid hsm; have c3 := q1 3 _ rfl; obtain ⟨W3, hW3⟩ : ∃ W3, wN.alloc (.cells #[.int .i64 6, .int .u64 0, .slice none 0 0, .string ⟨#[]⟩, .slice none 0 0] 62) = W3 := ⟨_, rfl⟩; change wN.alloc (.cells (rwC ⟨6, 0, .slice none 0 0, ⟨#[]⟩, .slice none 0 0⟩).toArray 62) = W3 at hW3; rw [hW3] at Hxy HB3 HT3 HSM hrun q1 q2 c3; change wN.alloc (.cells #[.int .i64 6, .int .u64 0, .slice none 0 0, .string ⟨#[]⟩, .slice none 0 0] 62) = W3 at hW3; rw [hW3]; clear hW3; clear hs1 hrN r0 r1 r2 r3 r4 hrd c1 hlk hf hz hbr hmy hxy hB3 hT3 hsm hsz e1; cases f
  · have HN := Lib.hid (show rightB x = false by simp [HRB.out])
    go_wp2_with (go_at_call 147; refine hrun.mono ?_; rintro en w4 ⟨rfl, hb4⟩)
    refine wpK_seq_k fun K hK => ?_
    go_wp2_with (go_at_call 125; refine (must_no 2 _).mono ?_; rintro en w6 ⟨rfl, rfl⟩)
    exact ⟨below_up HB3.out hb4, by rw [HN.out]; rfl⟩
  · go_wp2_with (go_at_call 147; refine hrun.mono ?_; rintro en w4 ⟨rfl, hb4⟩)
    refine wpK_seq_k fun K hK => ?_
    have q1 := rangeAt_up hb4 q1; have q2 := rangeAt_up hb4 q2; have a0 := q1 0 _ rfl; have y0 := q2 0 _ rfl; have a1 := q1 1 _ rfl; have y1 := q2 1 _ rfl; have a2 := q1 2 _ rfl; have y2 := q2 2 _ rfl; have a3 := q1 3 _ rfl; have y3 := q2 3 _ rfl; have a4 := q1 4 _ rfl; have y4 := q2 4 _ rfl; simp only [Nat.zero_add] at a0 a1 a2 a3 a4 y0 y1 y2 y3 y4; cases z
    · have HN := Lib.hid (show rightB x = false by simp [HRB.out])
      go_wp2_with (first
      | (go_at_call 156; refine (HSM.out _ hb4).mono ?_; rintro en w5 ⟨rfl, hb5⟩; have d0 := rangeAt_up hb5 q1 0 _ rfl; have d1 := rangeAt_up hb5 q1 1 _ rfl; simp only [Nat.zero_add] at d0 d1)
      | (go_at_call 125; refine (must_no 2 _).mono ?_; rintro en w6 ⟨rfl, rfl⟩))
      exact ⟨below_up HB3.out (below_up hb4 hb5), by rw [HN.out]; rfl⟩
    · have HY := Lib.hid (show rightB x = rightL x.l by simp [HRB.out, hk])
      go_wp2_with (first
        | (go_at_call 156; refine (HSM.out _ hb4).mono ?_; rintro en w5 ⟨rfl, hb5⟩; have d0 := rangeAt_up hb5 q1 0 _ rfl; have d1 := rangeAt_up hb5 q1 1 _ rfl; simp only [Nat.zero_add] at d0 d1)
        | (go_at_call 125; refine (must_yes 2 _).mono ?_; rintro en w6 ⟨rfl, rfl⟩))
      rw [HY.out]; have hbw := below_up HB3.out (below_up hb4 hb5)
      have hcl : cntL x.l ≤ 1000000 := by have := cnt_eq x; omega
      exact right_tail S x.l ih hcl ((kwB_eq x).1 hkw).2 w w5 hbw (fun q hq => by have := hSk q hq; have := hbw.size; omega) w.heap.size 0 0 (.bool true) ⟨#[]⟩ la1 ln1 lc1 rows (HT3.out.up (below_up hb4 hb5)) (rangeAt_up hb5 q1 4 _ rfl) (Hp.out.l.up hbw) (Hp.out.each.up hbw) _ _ _ _ _ _ _ _ _ _ _ _ _ _ _ _ _ _ _ _ _ _ _ _ _ _ _ _ _ _ _ _ _ _ _ _ _ _ _ _ _ _ _ _ _ _ _ _ _ _ _ _ _ _ _ _ _ _ _ _ _ _ _ _ _ _ _ _ _ _ _ _
theorem right_k0 (S : Nat → Prop) (x : It) (ih : ∀ y ∈ x.l, RiC S y) (hk : ¬ (1 ≤ x.k ∧ x.k ≤ 6)) : RiC S x := by
  intro r w hr hcx hkw hT hSk; obtain ⟨k1, n1, ba1, bn1, bc1, s1, la1, ln1, lc1, rfl⟩ := hr.shape; obtain ⟨rows, p⟩ := hr.parts; have hB1 := below_alloc w (.cells (rwC ⟨k1, n1, .slice ba1 bn1 bc1, s1, .slice la1 ln1 lc1⟩).toArray 62); have e1 := rangeAt_new w (rwC ⟨k1, n1, .slice ba1 bn1 bc1, s1, .slice la1 ln1 lc1⟩) 62 (0, 0); have hk1 : k1 = x.k := p.k; have Hr := Lib.hid hr; have Hp := Lib.hid p; have KK : Keyed Tryz.prog 60 := int_keyed Tryz.underlying60; clear hr p; obtain ⟨z0, hz0⟩ : ∃ z0, ∀ w, (zeroValue 66).run Tryz.prog w = .ok z0 w := ⟨_, fun _ => rfl⟩
  have hwf : (Lit.int .i64 k1).wf = true := by
    have := ((kwB_eq x).1 hkw).1; rw [← hk1] at this; exact wf_i64 this.1 this.2
  have hnk : ¬ (1 ≤ k1 ∧ k1 ≤ 6) := by rw [hk1]; exact hk
  have g1 : (k1 == 1) = false := by simp; omega
  have g2 : (k1 == 2) = false := by simp; omega
  have g3 : (k1 == 3) = false := by simp; omega
  have g4 : (k1 == 4) = false := by simp; omega
  have g5 : (k1 == 5) = false := by simp; omega
  clear hk1; refine calls_of_wpK Tryz.func135 rfl ?_; simp only [Tryz.ntmps135, List.size_toArray, List.length_cons, List.length_nil, Nat.reduceAdd, Nat.reduceSub, Array.replicate_succ, Array.replicate_zero, List.push_toArray, List.append_toArray, List.nil_append, List.cons_append]
  refine wpK_seq_k fun K hK => ?_
  go_wp2
  refine wpK_seq_k fun K hK => ?_
  refine wp_onlyN (wp_region_pi [(1, false), (2, false), (0, true), (3, false), (4, false), (5, false), (6, false), (7, false), (8, false)] (by kernel_rfl) (by kernel_rfl) (by kernel_rfl) rfl onlyN_panic (fun Wd hBd => ?_))
  try simp only [zq]
  have hrd := rangeAt_up hBd e1
  have c1 : ∀ w', Below Wd.heap.size Wd w' → w'.cell? ⟨w.heap.size, 0 + 0, none⟩ = some (.int .i64 k1) := fun w' h => rangeAt_up h hrd 0 _ rfl
  simp only [Nat.add_zero] at c1; refine zi rfl (by rfl) ?_; refine zi rfl (by rfl) ?_; refine pi_call rfl (by rfl) ((writes_c Wd)) enters_writes (by rfl) (by kernel_rfl) ?_; rintro en wN ⟨rfl, hm1, hb1⟩; refine ⟨_, rfl, hb1, ?_⟩
  try simp only [zq]
  have hlk : ∀ w', Below wN.heap.size wN w' → (Instr.lookup 192 (.map (some Wd.heap.size)) (.int .i64 k1) true).run Tryz.prog w' = .ok (.tuple #[z0, .bool false]) w' := fun w' h => MapAt.look_none (hm1.heap (h.block _ hm1.lt)) KK Tryz.underlying192 (hz0 w') (keyOf_int_mk (a := k1) Tryz.underlying60 hwf) (not_ents hnk) true
  iterate 6
    refine zi rfl (by rfl) ?_
  refine pi_nilN ?_; go_wp2
  refine wpK_seq_k fun K hK => ?_
  have hBN := below_up (below_up hB1 hBd) hb1; have hrN := rangeAt_up hb1 hrd; have r0 := hrN 0 _ rfl; have r1 := hrN 1 _ rfl; have r2 := hrN 2 _ rfl; have r3 := hrN 3 _ rfl; have r4 := hrN 4 _ rfl; simp only [Nat.add_zero] at r0; go_wp2
  refine wpK_seq_k fun K hK => ?_
  go_wp2
  refine wpK_seq_k fun K hK => ?_
  obtain ⟨f, hf⟩ : ∃ f, (runes s1).2 = f := ⟨_, rfl⟩; have hs1 : s1 = x.s := Hp.out.s
  have hsz : s1.size ≤ 9223372036854775807 := by rw [hs1]; cases x; simp only [cnt, It.s] at *; omega
  have hB3 : Below w.heap.size w (wN.alloc (.cells (rwC ⟨k1, 0, .slice none 0 0, ⟨#[]⟩, .slice none 0 0⟩).toArray 62)) := hBN.alloc hBN.size _; have hT3 := hT.up hB3; have q1 := rangeAt_up (below_alloc wN (.cells (rwC ⟨k1, 0, .slice none 0 0, ⟨#[]⟩, .slice none 0 0⟩).toArray 62)) hrN; have q2 := rangeAt_new wN (rwC ⟨k1, 0, .slice none 0 0, ⟨#[]⟩, .slice none 0 0⟩) 62 (0, 0); have hrun := runes_c s1 _ hsz hT3; rw [hf] at hrun; obtain ⟨rn, hrn⟩ : ∃ rn : Nat, (runes s1).1 = rn := ⟨_, rfl⟩; rw [hrn] at hrun; clear hrn; have hmy := mask_it (Hr.out.up hB3); simp only [show (x.k = 1) = False from eq_false (by omega), show (x.k = 2) = False from eq_false (by omega), show (x.k = 3) = False from eq_false (by omega), show (x.k = 4) = False from eq_false (by omega), show (x.k = 5) = False from eq_false (by omega), or_self, if_true, if_false] at hmy
  have hxy := Hr.out.up hB3
  have hsm := fun w' (hb : Below (wN.alloc (.cells (rwC ⟨k1, 0, .slice none 0 0, ⟨#[]⟩, .slice none 0 0⟩).toArray 62)).heap.size _ w') => cbSame_c S x (mask x) ⟨k1, n1, .slice ba1 bn1 bc1, s1, .slice la1 ln1 lc1⟩ ⟨k1, 0, .slice none 0 0, ⟨#[]⟩, .slice none 0 0⟩ w' (hxy.up hb) (hmy.up hb) hcx (by have := mask_cnt x; omega)
  have hbr := mask_same x; obtain ⟨z, hz⟩ : ∃ z, sameB x (mask x) = z := ⟨_, rfl⟩; rw [hz] at hsm hbr; have HRB := Lib.hid (right_is x (f := f) (z := z) (by rw [← hs1]; exact hf) hbr.symm); have Hxy := Lib.hid hxy; have HB3 := Lib.hid hB3; have HT3 := Lib.hid hT3; have HSM := Lib.hid hsm; have c3 := q1 3 _ rfl; obtain ⟨W3, hW3⟩ : ∃ W3, wN.alloc (.cells #[.int .i64 k1, .int .u64 0, .slice none 0 0, .string ⟨#[]⟩, .slice none 0 0] 62) = W3 := ⟨_, rfl⟩; change wN.alloc (.cells (rwC ⟨k1, 0, .slice none 0 0, ⟨#[]⟩, .slice none 0 0⟩).toArray 62) = W3 at hW3; rw [hW3] at Hxy HB3 HT3 HSM hrun q1 q2 c3; change wN.alloc (.cells #[.int .i64 k1, .int .u64 0, .slice none 0 0, .string ⟨#[]⟩, .slice none 0 0] 62) = W3 at hW3; rw [hW3]; clear hW3; clear hs1 hrN r0 r1 r2 r3 r4 hrd c1 hlk hf hz hbr hmy hxy hB3 hT3 hsm hsz e1; cases f
  · have HN := Lib.hid (show rightB x = false by simp [HRB.out])
    go_wp2_with (go_at_call 147; refine hrun.mono ?_; rintro en w4 ⟨rfl, hb4⟩)
    refine wpK_seq_k fun K hK => ?_
    go_wp2_with (go_at_call 125; refine (must_no 2 _).mono ?_; rintro en w6 ⟨rfl, rfl⟩)
    exact ⟨below_up HB3.out hb4, by rw [HN.out]; rfl⟩
  · go_wp2_with (go_at_call 147; refine hrun.mono ?_; rintro en w4 ⟨rfl, hb4⟩)
    refine wpK_seq_k fun K hK => ?_
    have q1 := rangeAt_up hb4 q1; have q2 := rangeAt_up hb4 q2; have a0 := q1 0 _ rfl; have y0 := q2 0 _ rfl; have a1 := q1 1 _ rfl; have y1 := q2 1 _ rfl; have a2 := q1 2 _ rfl; have y2 := q2 2 _ rfl; have a3 := q1 3 _ rfl; have y3 := q2 3 _ rfl; have a4 := q1 4 _ rfl; have y4 := q2 4 _ rfl; simp only [Nat.zero_add] at a0 a1 a2 a3 a4 y0 y1 y2 y3 y4; have HN := Lib.hid (show rightB x = false by rw [HRB.out, decide_eq_false hk]; rfl)
    go_wp2_with (go_at_call 125; refine (must_no 2 _).mono ?_; rintro en w6 ⟨rfl, rfl⟩)
    exact ⟨below_up HB3.out hb4, by rw [HN.out]; rfl⟩
theorem right_c (S : Nat → Prop) (x : It) : RiC S x := by
  induction x using It.ind with
  | h x ih =>
    have hcs : x.k = 1 ∨ x.k = 2 ∨ x.k = 3 ∨ x.k = 4 ∨ x.k = 5 ∨ x.k = 6 ∨ ¬ (1 ≤ x.k ∧ x.k ≤ 6) := by omega
    rcases hcs with e | e | e | e | e | e | e
    · exact right_k1 S x ih e
    · exact right_k2 S x ih e
    · exact right_k3 S x ih e
    · exact right_k4 S x ih e
    · exact right_k5 S x ih e
    · exact right_k6 S x ih e
    · exact right_k0 S x ih e
end Go.Proofs.YtpkonagjnfphkaaGreatDoor
