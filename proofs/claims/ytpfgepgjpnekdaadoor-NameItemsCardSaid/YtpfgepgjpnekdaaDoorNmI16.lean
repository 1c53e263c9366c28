/-
  NmEnd: several texts in one (bundle.py).
-/
import Derived.Test.YtpfgepgjpnekdaaDoorNmI14
import Derived.Test.YtpfgepgjpnekdaaDoorNmI15
namespace Go.Proofs.YtpfgepgjpnekdaaDoor
open Go.RowKit
set_option linter.unusedSimpArgs false
set_option linter.unusedVariables false
namespace Dig
def nobodyL : List UInt8 := [100, 116, 110, 58, 110, 111, 110, 101]
def ipnL : List UInt8 := [105, 112, 110, 58]
/-- The endpoint of a text. -/
def endP (l : List UInt8) : Option (Nat × Nat) :=
  if l = nobodyL then some (0, 0)
  else if l.take 4 = ipnL then
    match cut 46 (l.drop 4) with
    | none => none
    | some (a, b) => match toNum a 4294967295, toNum b 4294967295 with
      | some n, some m => if n = 0 then none else some (n, m)
      | _, _ => none
  else none
theorem prefix_ipn (l : List UInt8) : Lib.hasPrefix l ipnL = decide (l.take 4 = ipnL) := by
  unfold Lib.hasPrefix
  rw [Bool.eq_iff_iff, List.isPrefixOf_iff_prefix, List.prefix_iff_eq_take, decide_eq_true_eq]
  exact ⟨fun h => h.symm, fun h => h.symm⟩
theorem endP_le {l : List UInt8} {p : Nat × Nat} (h : endP l = some p) : p.1 ≤ 4294967295 ∧ p.2 ≤ 4294967295 ∧ (p.1 = 0 → p.2 = 0) := by
  unfold endP at h
  split at h
  · cases h; exact ⟨by simp, by simp, fun _ => rfl⟩
  · split at h
    · split at h
      · cases h
      · split at h
        · rename_i n m hn hm
          split at h
          · cases h
          · rename_i h0
            cases h
            exact ⟨toNum_le hn, toNum_le hm, fun e => absurd e h0⟩
        · cases h
    · cases h
end Dig
theorem cutPrefix_c (l p : List UInt8) (w : World) : Calls Tryd.prog 80 #[strV l, strV p] w fun e w' => e = .returned (.tuple #[strV (Lib.trimPrefix l p), .bool (Lib.hasPrefix l p)]) ∧ w' = w := Any.strings_CutPrefix lays103 ⟨l.toArray⟩ ⟨p.toArray⟩ w
theorem cutIpn_yes (l : List UInt8) (h : l.take 4 = Dig.ipnL) (w : World) : Calls Tryd.prog 80 #[strV l, .string ⟨#[105, 112, 110, 58]⟩] w fun e w' => e = .returned (.tuple #[strV (l.drop 4), .bool true]) ∧ w = w' :=
  (cutPrefix_c l Dig.ipnL w).mono fun e w' ⟨he, hw⟩ => by
    have h2 : Lib.hasPrefix l Dig.ipnL = true := by rw [Dig.prefix_ipn]; exact decide_eq_true h
    refine ⟨?_, hw.symm⟩
    rw [he, h2]
    unfold Lib.trimPrefix
    rw [if_pos h2]
    rfl
theorem cutIpn_no (l : List UInt8) (h : l.take 4 ≠ Dig.ipnL) (w : World) : Calls Tryd.prog 80 #[strV l, .string ⟨#[105, 112, 110, 58]⟩] w fun e w' => e = .returned (.tuple #[strV l, .bool false]) ∧ w = w' :=
  (cutPrefix_c l Dig.ipnL w).mono fun e w' ⟨he, hw⟩ => by
    have h2 : Lib.hasPrefix l Dig.ipnL = false := by rw [Dig.prefix_ipn]; exact decide_eq_false h
    refine ⟨?_, hw.symm⟩
    rw [he, h2]
    unfold Lib.trimPrefix
    rw [if_neg (by rw [h2]; decide)]
theorem upToDot_c (l : List UInt8) (hl : l.length ≤ 281474976710656) (b : Nat) (T : TypeId) (w : World) (hR : RowAt w b #[strV l] T) :
    Calls Tryd.prog 42 #[.pointer (some ⟨b, 0, none⟩), .int .i32 46] w (UpTo 46 l b T w) := upTo_c 46 (by decide) l hl b T w hR
theorem upToBlank_c (l : List UInt8) (hl : l.length ≤ 281474976710656) (b : Nat) (T : TypeId) (w : World) (hR : RowAt w b #[strV l] T) :
    Calls Tryd.prog 42 #[.pointer (some ⟨b, 0, none⟩), .int .i32 32] w (UpTo 32 l b T w) := upTo_c 32 (by decide) l hl b T w hR
theorem UpTo.yes {c : UInt8} {l : List UInt8} {b : Nat} {T : TypeId} {w w' : World} {en : Ending} {x y : List UInt8} (h : UpTo c l b T w en w') (hc : Dig.cut c l = some (x, y)) : en = .returned (strV x) ∧ But (· = b) w w' ∧ RowAt w' b #[strV y] T := by
  unfold UpTo at h; rw [hc] at h; exact h
theorem UpTo.no {c : UInt8} {l : List UInt8} {b : Nat} {T : TypeId} {w w' : World} {en : Ending} (h : UpTo c l b T w en w') (hc : Dig.cut c l = none) : en = .panicked (gup 130) ∧ Below w.heap.size w w' := by
  unfold UpTo at h; rw [hc] at h; exact h
theorem Bdd.yes {l : List UInt8} {bound n : Nat} {w w' : World} {en : Ending} (h : Bdd l bound w en w') (hc : Dig.toNum l bound = some n) : en = .returned (.int .u64 n) ∧ Below w.heap.size w w' := by
  have := h.2; rw [hc] at this; exact ⟨this, h.1⟩
theorem Bdd.gives {l : List UInt8} {bound : Nat} {w w' : World} {en : Ending} (h : Bdd l bound w en w') (hc : Dig.toNum l bound = none) : en = .panicked (gup 130) ∧ Below w.heap.size w w' := by
  have := h.2; rw [hc] at this; exact ⟨this, h.1⟩
theorem wp_cutP {P : Program} {c : Code} {Q : Exit → Act → World → Prop} {a : Act} {w : World} (J : Act → World → Prop) (h1 : c.wp P (onlyN fun _ a w => J a w) a w) (h2 : ∀ a' w', J a' w' → Q .normal a' w') : c.wp P Q a w :=
  Code.wp_mono (fun e a' w' he => by obtain ⟨rfl, h⟩ := he; exact h2 _ _ h) h1
/-- What endpoint tells. -/
def EndE (l : List UInt8) (w : World) (en : Ending) (w' : World) : Prop := Below w.heap.size w w' ∧ match Dig.endP l with
  | some p => en = .returned (.agg #[.int .u32 p.1, .int .u32 p.2])
  | none => en = .panicked (gup 130)
theorem EndE.no {l : List UInt8} {w w' : World} (h : Dig.endP l = none) (hw : Below w.heap.size w w') : EndE l w (.panicked (gup 130)) w' := ⟨hw, by rw [h]⟩
theorem EndE.yes {l : List UInt8} {w w' : World} {p : Nat × Nat} (h : Dig.endP l = some p) (hw : Below w.heap.size w w') : EndE l w (.returned (.agg #[.int .u32 p.1, .int .u32 p.2])) w' := ⟨hw, by rw [h]⟩
theorem but_below {B : Nat} {A w w' : World} {O : Nat → Prop} (h : Below B A w) (hb : But O w w') (hO : ∀ k, O k → B ≤ k) (hB : B ≤ A.heap.size) : Below B A w' := h.trans (hb.below hO (Nat.le_trans hB h.size))
set_option maxHeartbeats 4000000 in
set_option maxRecDepth 100000 in
theorem endpoint_none (l : List UInt8) (hl : l.length ≤ 281474976710656) (w : World) (hT : NmT w) (h : l = Dig.nobodyL) :
    Calls Tryd.prog 40 #[strV l] w (EndE l w) := by
  have HT := Lib.hid hT
  have hr0 := RowAt.new w #[.int .u32 0, .int .u32 0] 25
  have hB0 := below_alloc w (.cells #[.int .u32 0, .int .u32 0] 25)
  have hz0 : (w.alloc (.cells #[.int .u32 0, .int .u32 0] 25)).heap.size = w.heap.size + 1 := by simp
  clear hT
  have hbe : (l == [100, 116, 110, 58, 110, 111, 110, 101]) = true := by rw [h]; decide
  have HE := Lib.hid (show Dig.endP l = some (0, 0) by unfold Dig.endP; rw [if_pos h])
  clear h
  go_enter Tryd.func40, Tryd.ntmps40
  go_wp2
  refine bodyPost_ret (v := .agg #[.int .u32 0, .int .u32 0]) (by simp [results, Tryd.results40, go_sem]) rfl ?_
  exact EndE.yes HE.out hB0
set_option maxHeartbeats 4000000 in
set_option maxRecDepth 100000 in
theorem endpoint_pre (l : List UInt8) (hl : l.length ≤ 281474976710656) (w : World) (hT : NmT w) (h : l ≠ Dig.nobodyL) (h2 : l.take 4 ≠ Dig.ipnL) :
    Calls Tryd.prog 40 #[strV l] w (EndE l w) := by
  have HT := Lib.hid hT
  have hr0 := RowAt.new w #[.int .u32 0, .int .u32 0] 25
  have hB0 := below_alloc w (.cells #[.int .u32 0, .int .u32 0] 25)
  have hz0 : (w.alloc (.cells #[.int .u32 0, .int .u32 0] 25)).heap.size = w.heap.size + 1 := by simp
  clear hT
  have hbe : (l == [100, 116, 110, 58, 110, 111, 110, 101]) = false := beq_eq_false_iff_ne.2 h
  have HE := Lib.hid (show Dig.endP l = none by unfold Dig.endP; rw [if_neg h, if_neg h2])
  have HP := Lib.hid h2
  clear h h2
  go_enter Tryd.func40, Tryd.ntmps40
  go_wp2_with (first
    | (go_at_call 80; refine (cutIpn_no l HP.out _).mono ?_; rintro e w1 ⟨rfl, rfl⟩)
    | (go_at_call 39; (with_reducible refine (nmMust_no _ _).mono ?_); rintro e w3 ⟨rfl, rfl⟩))
  exact ⟨rfl, EndE.no HE.out hB0⟩
set_option maxHeartbeats 4000000 in
set_option maxRecDepth 100000 in
theorem endpoint_nocut (l : List UInt8) (hl : l.length ≤ 281474976710656) (w : World) (hT : NmT w) (h : l ≠ Dig.nobodyL) (h2 : l.take 4 = Dig.ipnL) (hc : Dig.cut 46 (l.drop 4) = none) :
    Calls Tryd.prog 40 #[strV l] w (EndE l w) := by
  have HT := Lib.hid hT
  have hr0 := RowAt.new w #[.int .u32 0, .int .u32 0] 25
  have hB0 := below_alloc w (.cells #[.int .u32 0, .int .u32 0] 25)
  have hz0 : (w.alloc (.cells #[.int .u32 0, .int .u32 0] 25)).heap.size = w.heap.size + 1 := by simp
  clear hT
  have hbe : (l == [100, 116, 110, 58, 110, 111, 110, 101]) = false := beq_eq_false_iff_ne.2 h
  have HE := Lib.hid (show Dig.endP l = none by unfold Dig.endP; rw [if_neg h, if_pos h2]; simp only [hc])
  have HP := Lib.hid h2
  have hl4 : (l.drop 4).length ≤ 281474976710656 := by rw [List.length_drop]; omega
  have HC := Lib.hid hc
  clear h h2 hc
  go_enter Tryd.func40, Tryd.ntmps40
  go_wp2_with (first
    | (go_at_call 80; refine (cutIpn_yes l HP.out _).mono ?_; rintro e w1 ⟨rfl, rfl⟩)
    | (go_at_call 39; (with_reducible refine (nmMust_yes _ _).mono ?_); rintro e w3 ⟨rfl, rfl⟩))
  obtain ⟨W0, hW0⟩ : ∃ x, w.alloc (.cells #[.int .u32 0, .int .u32 0] 25) = x := ⟨_, rfl⟩
  rw [hW0] at hr0 hB0 hz0 ⊢
  have hX1 := RowAt.new W0 #[strV (l.drop 4)] 84
  have HB1 := Lib.hid (below_alloc W0 (.cells #[strV (l.drop 4)] 84))
  obtain ⟨W1, hW1⟩ : ∃ x, W0.alloc (.cells #[strV (l.drop 4)] 84) = x := ⟨_, rfl⟩
  try rw [← hz0]
  rw [hW1] at hX1 HB1 ⊢
  have HX1 := Lib.hid hX1
  have HB0 := Lib.hid hB0
  have HR0 := Lib.hid hr0
  have HZ0 := Lib.hid hz0
  clear hW0 hW1 hX1 hB0 hr0 hz0
  refine wp_region_pt (fun k => W0.heap.size ≤ k) (.q 0 (.q 1 (.q 2 (.q 6 (.q 7 (.q 8 (.f 3 (.f 4 (.q 5 (.f 9 (.f 10 (.q 11 (.q 12 (.c 13 (.c 14 .done)))) 13 (.c 10 (.q 11 (.q 12 (.c 14 .done))))) 13 (.c 9 (.c 10 (.q 11 (.q 12 (.c 14 .done))))))) 13 (.c 4 (.q 5 (.c 9 (.c 10 (.q 11 (.q 12 (.c 14 .done)))))))) 13 (.c 3 (.c 4 (.q 5 (.c 9 (.c 10 (.q 11 (.q 12 (.c 14 .done))))))))))))))) (by kernel_rfl) (by kernel_rfl) (by kernel_rfl) (by decide) (fun _ _ d _ _ h => by cases d <;> exact h) (fun Wd hBd => ?_)
  try simp only [Act.put, List.getElem_toArray, List.getElem_cons_zero, List.getElem_cons_succ, List.setIfInBounds_toArray, List.set_cons_zero, List.set_cons_succ]
  have B0 := below_up HB1.out hBd
  have X0 := HX1.out.below hBd
  refine pt_q (v := ?_) rfl (by rfl) ?_ ?_
  rotate_left
  · intro w' hBw'
    first | (go_simp; done) | (go_simp; with_reducible rfl)
  try simp only [Act.put, List.getElem_toArray, List.getElem_cons_zero, List.getElem_cons_succ, List.setIfInBounds_toArray, List.set_cons_zero, List.set_cons_succ]
  refine pt_q (v := ?_) rfl (by rfl) ?_ ?_
  rotate_left
  · intro w' hBw'
    first | (go_simp; done) | (go_simp; with_reducible rfl)
  try simp only [Act.put, List.getElem_toArray, List.getElem_cons_zero, List.getElem_cons_succ, List.setIfInBounds_toArray, List.set_cons_zero, List.set_cons_succ]
  refine pt_q (v := ?_) rfl (by rfl) ?_ ?_
  rotate_left
  · intro w' hBw'
    first | (go_simp; done) | (go_simp; with_reducible rfl)
  try simp only [Act.put, List.getElem_toArray, List.getElem_cons_zero, List.getElem_cons_succ, List.setIfInBounds_toArray, List.set_cons_zero, List.set_cons_succ]
  refine pt_q (v := ?_) rfl (by rfl) ?_ ?_
  rotate_left
  · intro w' hBw'
    first | (go_simp; done) | (go_simp; with_reducible rfl)
  try simp only [Act.put, List.getElem_toArray, List.getElem_cons_zero, List.getElem_cons_succ, List.setIfInBounds_toArray, List.set_cons_zero, List.set_cons_succ]
  refine pt_q (v := ?_) rfl (by rfl) ?_ ?_
  rotate_left
  · intro w' hBw'
    first | (go_simp; done) | (go_simp; with_reducible rfl)
  try simp only [Act.put, List.getElem_toArray, List.getElem_cons_zero, List.getElem_cons_succ, List.setIfInBounds_toArray, List.set_cons_zero, List.set_cons_succ]
  refine pt_q (v := ?_) rfl (by rfl) ?_ ?_
  rotate_left
  · intro w' hBw'
    first | (go_simp; done) | (go_simp; with_reducible rfl)
  try simp only [Act.put, List.getElem_toArray, List.getElem_cons_zero, List.getElem_cons_succ, List.setIfInBounds_toArray, List.set_cons_zero, List.set_cons_succ]
  refine pt_f ?_ ?_
  · refine pt_step rfl (by rfl) (fun K hK => ?_)
    go_simp
    refine (upToDot_c _ hl4 W0.heap.size 84 _ X0).mono ?_
    rintro en w1 hU
    obtain ⟨rfl, hb0⟩ := hU.no HC.out
    exact ⟨rfl, EndE.no HE.out (below_up HB0.out (below_up B0 hb0))⟩
  · refine pt_step rfl (by rfl) (fun K hK => ?_)
    go_simp
    have hA0 := RowAt.new Wd #[.int .u32 0, .int .u32 0] 25
    have hq0 := below_alloc Wd (.cells #[.int .u32 0, .int .u32 0] 25)
    obtain ⟨wA0, hwA0⟩ : ∃ x, Wd.alloc (.cells #[.int .u32 0, .int .u32 0] 25) = x := ⟨_, rfl⟩
    rw [hwA0] at hA0 hq0 ⊢
    have B1 := below_up B0 hq0
    have X1 := X0.below hq0
    have A1 : RowAt wA0 Wd.heap.size #[.int .u32 0, .int .u32 0] 25 := hA0
    have hx0 : W0.heap.size < Wd.heap.size := X0.lt
    clear hwA0 hA0
    refine hK.out _ _ (But.of_below hq0) ?_
    clear hK K
    try simp only [Act.put, List.getElem_toArray, List.getElem_cons_zero, List.getElem_cons_succ, List.setIfInBounds_toArray, List.set_cons_zero, List.set_cons_succ]
    refine pt_c ?_
    refine pt_step rfl (by rfl) (fun K hK => ?_)
    go_simp
    refine (upToDot_c _ hl4 W0.heap.size 84 _ X1).mono ?_
    rintro en w2 hU
    obtain ⟨rfl, hb1⟩ := hU.no HC.out
    exact ⟨rfl, EndE.no HE.out (below_up HB0.out (below_up B1 hb1))⟩
set_option maxHeartbeats 4000000 in
set_option maxRecDepth 100000 in
theorem endpoint_noa (l : List UInt8) (hl : l.length ≤ 281474976710656) (w : World) (hT : NmT w) (h : l ≠ Dig.nobodyL) (h2 : l.take 4 = Dig.ipnL) (la lb : List UInt8) (hc : Dig.cut 46 (l.drop 4) = some (la, lb)) (hn : Dig.toNum la 4294967295 = none) :
    Calls Tryd.prog 40 #[strV l] w (EndE l w) := by
  have HT := Lib.hid hT
  have hr0 := RowAt.new w #[.int .u32 0, .int .u32 0] 25
  have hB0 := below_alloc w (.cells #[.int .u32 0, .int .u32 0] 25)
  have hz0 : (w.alloc (.cells #[.int .u32 0, .int .u32 0] 25)).heap.size = w.heap.size + 1 := by simp
  clear hT
  have hbe : (l == [100, 116, 110, 58, 110, 111, 110, 101]) = false := beq_eq_false_iff_ne.2 h
  have HE := Lib.hid (show Dig.endP l = none by unfold Dig.endP; rw [if_neg h, if_pos h2]; simp only [hc, hn])
  have HP := Lib.hid h2
  have hl4 : (l.drop 4).length ≤ 281474976710656 := by rw [List.length_drop]; omega
  have hcs := Dig.cut_some hc
  have hll := congrArg List.length hcs.1
  simp only [List.length_append, List.length_cons] at hll
  have hla : la.length ≤ 281474976710656 := by omega
  have hlb : lb.length ≤ 281474976710656 := by omega
  clear hcs hll
  have HC := Lib.hid hc
  have HN := Lib.hid hn
  clear h h2 hc hn
  go_enter Tryd.func40, Tryd.ntmps40
  go_wp2_with (first
    | (go_at_call 80; refine (cutIpn_yes l HP.out _).mono ?_; rintro e w1 ⟨rfl, rfl⟩)
    | (go_at_call 39; (with_reducible refine (nmMust_yes _ _).mono ?_); rintro e w3 ⟨rfl, rfl⟩))
  obtain ⟨W0, hW0⟩ : ∃ x, w.alloc (.cells #[.int .u32 0, .int .u32 0] 25) = x := ⟨_, rfl⟩
  rw [hW0] at hr0 hB0 hz0 ⊢
  have hX1 := RowAt.new W0 #[strV (l.drop 4)] 84
  have HB1 := Lib.hid (below_alloc W0 (.cells #[strV (l.drop 4)] 84))
  obtain ⟨W1, hW1⟩ : ∃ x, W0.alloc (.cells #[strV (l.drop 4)] 84) = x := ⟨_, rfl⟩
  try rw [← hz0]
  rw [hW1] at hX1 HB1 ⊢
  have HX1 := Lib.hid hX1
  have HB0 := Lib.hid hB0
  have HR0 := Lib.hid hr0
  have HZ0 := Lib.hid hz0
  clear hW0 hW1 hX1 hB0 hr0 hz0
  refine wp_region_pt (fun k => W0.heap.size ≤ k) (.q 0 (.q 1 (.q 2 (.q 6 (.q 7 (.q 8 (.f 3 (.f 4 (.q 5 (.f 9 (.f 10 (.q 11 (.q 12 (.c 13 (.c 14 .done)))) 13 (.c 10 (.q 11 (.q 12 (.c 14 .done))))) 13 (.c 9 (.c 10 (.q 11 (.q 12 (.c 14 .done))))))) 13 (.c 4 (.q 5 (.c 9 (.c 10 (.q 11 (.q 12 (.c 14 .done)))))))) 13 (.c 3 (.c 4 (.q 5 (.c 9 (.c 10 (.q 11 (.q 12 (.c 14 .done))))))))))))))) (by kernel_rfl) (by kernel_rfl) (by kernel_rfl) (by decide) (fun _ _ d _ _ h => by cases d <;> exact h) (fun Wd hBd => ?_)
  try simp only [Act.put, List.getElem_toArray, List.getElem_cons_zero, List.getElem_cons_succ, List.setIfInBounds_toArray, List.set_cons_zero, List.set_cons_succ]
  have B0 := below_up HB1.out hBd
  have X0 := HX1.out.below hBd
  refine pt_q (v := ?_) rfl (by rfl) ?_ ?_
  rotate_left
  · intro w' hBw'
    first | (go_simp; done) | (go_simp; with_reducible rfl)
  try simp only [Act.put, List.getElem_toArray, List.getElem_cons_zero, List.getElem_cons_succ, List.setIfInBounds_toArray, List.set_cons_zero, List.set_cons_succ]
  refine pt_q (v := ?_) rfl (by rfl) ?_ ?_
  rotate_left
  · intro w' hBw'
    first | (go_simp; done) | (go_simp; with_reducible rfl)
  try simp only [Act.put, List.getElem_toArray, List.getElem_cons_zero, List.getElem_cons_succ, List.setIfInBounds_toArray, List.set_cons_zero, List.set_cons_succ]
  refine pt_q (v := ?_) rfl (by rfl) ?_ ?_
  rotate_left
  · intro w' hBw'
    first | (go_simp; done) | (go_simp; with_reducible rfl)
  try simp only [Act.put, List.getElem_toArray, List.getElem_cons_zero, List.getElem_cons_succ, List.setIfInBounds_toArray, List.set_cons_zero, List.set_cons_succ]
  refine pt_q (v := ?_) rfl (by rfl) ?_ ?_
  rotate_left
  · intro w' hBw'
    first | (go_simp; done) | (go_simp; with_reducible rfl)
  try simp only [Act.put, List.getElem_toArray, List.getElem_cons_zero, List.getElem_cons_succ, List.setIfInBounds_toArray, List.set_cons_zero, List.set_cons_succ]
  refine pt_q (v := ?_) rfl (by rfl) ?_ ?_
  rotate_left
  · intro w' hBw'
    first | (go_simp; done) | (go_simp; with_reducible rfl)
  try simp only [Act.put, List.getElem_toArray, List.getElem_cons_zero, List.getElem_cons_succ, List.setIfInBounds_toArray, List.set_cons_zero, List.set_cons_succ]
  refine pt_q (v := ?_) rfl (by rfl) ?_ ?_
  rotate_left
  · intro w' hBw'
    first | (go_simp; done) | (go_simp; with_reducible rfl)
  try simp only [Act.put, List.getElem_toArray, List.getElem_cons_zero, List.getElem_cons_succ, List.setIfInBounds_toArray, List.set_cons_zero, List.set_cons_succ]
  refine pt_f ?_ ?_
  · refine pt_step rfl (by rfl) (fun K hK => ?_)
    go_simp
    refine (upToDot_c _ hl4 W0.heap.size 84 _ X0).mono ?_
    rintro en w1 hU
    obtain ⟨rfl, hb0, X1⟩ := hU.yes HC.out
    have B1 := but_below B0 hb0 (fun k e => by subst e; exact Nat.le_refl _) (Nat.le_refl _)
    refine hK.out _ _ (hb0.mono fun k _ e => by subst e; exact Nat.le_refl _) ?_
    clear hK K
    try simp only [Act.put, List.getElem_toArray, List.getElem_cons_zero, List.getElem_cons_succ, List.setIfInBounds_toArray, List.set_cons_zero, List.set_cons_succ]
    refine pt_f ?_ ?_
    · refine pt_step rfl (by rfl) (fun K hK => ?_)
      go_simp
      refine (bounded_c la hla 4294967295 (by decide) _ (HT.out.up (below_up HB0.out B1))).mono ?_
      rintro en w2 hU
      obtain ⟨rfl, hb1⟩ := hU.gives HN.out
      exact ⟨rfl, EndE.no HE.out (below_up HB0.out (below_up B1 hb1))⟩
    · refine pt_step rfl (by rfl) (fun K hK => ?_)
      go_simp
      have hA1 := RowAt.new w1 #[.int .u32 0, .int .u32 0] 25
      have hq1 := below_alloc w1 (.cells #[.int .u32 0, .int .u32 0] 25)
      obtain ⟨wA1, hwA1⟩ : ∃ x, w1.alloc (.cells #[.int .u32 0, .int .u32 0] 25) = x := ⟨_, rfl⟩
      rw [hwA1] at hA1 hq1 ⊢
      have B2 := below_up B1 hq1
      have X2 := X1.below hq1
      have A2 : RowAt wA1 w1.heap.size #[.int .u32 0, .int .u32 0] 25 := hA1
      have hx1 : W0.heap.size < w1.heap.size := X1.lt
      clear hwA1 hA1
      refine hK.out _ _ (But.of_below hq1) ?_
      clear hK K
      try simp only [Act.put, List.getElem_toArray, List.getElem_cons_zero, List.getElem_cons_succ, List.setIfInBounds_toArray, List.set_cons_zero, List.set_cons_succ]
      refine pt_c ?_
      refine pt_step rfl (by rfl) (fun K hK => ?_)
      go_simp
      refine (bounded_c la hla 4294967295 (by decide) _ (HT.out.up (below_up HB0.out B2))).mono ?_
      rintro en w3 hU
      obtain ⟨rfl, hb2⟩ := hU.gives HN.out
      exact ⟨rfl, EndE.no HE.out (below_up HB0.out (below_up B2 hb2))⟩
  · refine pt_step rfl (by rfl) (fun K hK => ?_)
    go_simp
    have hA0 := RowAt.new Wd #[.int .u32 0, .int .u32 0] 25
    have hq0 := below_alloc Wd (.cells #[.int .u32 0, .int .u32 0] 25)
    obtain ⟨wA0, hwA0⟩ : ∃ x, Wd.alloc (.cells #[.int .u32 0, .int .u32 0] 25) = x := ⟨_, rfl⟩
    rw [hwA0] at hA0 hq0 ⊢
    have B1 := below_up B0 hq0
    have X1 := X0.below hq0
    have A1 : RowAt wA0 Wd.heap.size #[.int .u32 0, .int .u32 0] 25 := hA0
    have hx0 : W0.heap.size < Wd.heap.size := X0.lt
    clear hwA0 hA0
    refine hK.out _ _ (But.of_below hq0) ?_
    clear hK K
    try simp only [Act.put, List.getElem_toArray, List.getElem_cons_zero, List.getElem_cons_succ, List.setIfInBounds_toArray, List.set_cons_zero, List.set_cons_succ]
    refine pt_c ?_
    refine pt_step rfl (by rfl) (fun K hK => ?_)
    go_simp
    refine (upToDot_c _ hl4 W0.heap.size 84 _ X1).mono ?_
    rintro en w2 hU
    obtain ⟨rfl, hb1, X2⟩ := hU.yes HC.out
    have B2 := but_below B1 hb1 (fun k e => by subst e; exact Nat.le_refl _) (Nat.le_refl _)
    have A2 : RowAt w2 Wd.heap.size #[.int .u32 0, .int .u32 0] 25 := (hb1.same _ A1.lt (by omega)).trans A1
    refine hK.out _ _ (hb1.mono fun k _ e => by subst e; exact Nat.le_refl _) ?_
    clear hK K
    try simp only [Act.put, List.getElem_toArray, List.getElem_cons_zero, List.getElem_cons_succ, List.setIfInBounds_toArray, List.set_cons_zero, List.set_cons_succ]
    refine pt_c ?_
    refine pt_step rfl (by rfl) (fun K hK => ?_)
    go_simp
    refine (bounded_c la hla 4294967295 (by decide) _ (HT.out.up (below_up HB0.out B2))).mono ?_
    rintro en w3 hU
    obtain ⟨rfl, hb2⟩ := hU.gives HN.out
    exact ⟨rfl, EndE.no HE.out (below_up HB0.out (below_up B2 hb2))⟩
set_option maxHeartbeats 4000000 in
set_option maxRecDepth 100000 in
theorem endpoint_nob (l : List UInt8) (hl : l.length ≤ 281474976710656) (w : World) (hT : NmT w) (h : l ≠ Dig.nobodyL) (h2 : l.take 4 = Dig.ipnL) (la lb : List UInt8) (hc : Dig.cut 46 (l.drop 4) = some (la, lb)) (n0 : Nat) (hn : Dig.toNum la 4294967295 = some n0) (hm : Dig.toNum lb 4294967295 = none) :
    Calls Tryd.prog 40 #[strV l] w (EndE l w) := by
  have HT := Lib.hid hT
  have hr0 := RowAt.new w #[.int .u32 0, .int .u32 0] 25
  have hB0 := below_alloc w (.cells #[.int .u32 0, .int .u32 0] 25)
  have hz0 : (w.alloc (.cells #[.int .u32 0, .int .u32 0] 25)).heap.size = w.heap.size + 1 := by simp
  clear hT
  have hbe : (l == [100, 116, 110, 58, 110, 111, 110, 101]) = false := beq_eq_false_iff_ne.2 h
  have HE := Lib.hid (show Dig.endP l = none by unfold Dig.endP; rw [if_neg h, if_pos h2]; simp only [hc, hn, hm])
  have HP := Lib.hid h2
  have hl4 : (l.drop 4).length ≤ 281474976710656 := by rw [List.length_drop]; omega
  have hcs := Dig.cut_some hc
  have hll := congrArg List.length hcs.1
  simp only [List.length_append, List.length_cons] at hll
  have hla : la.length ≤ 281474976710656 := by omega
  have hlb : lb.length ≤ 281474976710656 := by omega
  clear hcs hll
  have HC := Lib.hid hc
  have HN := Lib.hid hn
  have HM := Lib.hid hm
  have hn0 := Dig.toNum_le hn
  have hwn : IntKind.u32.wrap (n0 : Int) = (n0 : Int) := by rw [IntKind.wrap_u32]; omega
  clear h h2 hc hn hm
  go_enter Tryd.func40, Tryd.ntmps40
  go_wp2_with (first
    | (go_at_call 80; refine (cutIpn_yes l HP.out _).mono ?_; rintro e w1 ⟨rfl, rfl⟩)
    | (go_at_call 39; (with_reducible refine (nmMust_yes _ _).mono ?_); rintro e w3 ⟨rfl, rfl⟩))
  obtain ⟨W0, hW0⟩ : ∃ x, w.alloc (.cells #[.int .u32 0, .int .u32 0] 25) = x := ⟨_, rfl⟩
  rw [hW0] at hr0 hB0 hz0 ⊢
  have hX1 := RowAt.new W0 #[strV (l.drop 4)] 84
  have HB1 := Lib.hid (below_alloc W0 (.cells #[strV (l.drop 4)] 84))
  obtain ⟨W1, hW1⟩ : ∃ x, W0.alloc (.cells #[strV (l.drop 4)] 84) = x := ⟨_, rfl⟩
  try rw [← hz0]
  rw [hW1] at hX1 HB1 ⊢
  have HX1 := Lib.hid hX1
  have HB0 := Lib.hid hB0
  have HR0 := Lib.hid hr0
  have HZ0 := Lib.hid hz0
  clear hW0 hW1 hX1 hB0 hr0 hz0
  refine wp_region_pt (fun k => W0.heap.size ≤ k) (.q 0 (.q 1 (.q 2 (.q 6 (.q 7 (.q 8 (.f 3 (.f 4 (.q 5 (.f 9 (.f 10 (.q 11 (.q 12 (.c 13 (.c 14 .done)))) 13 (.c 10 (.q 11 (.q 12 (.c 14 .done))))) 13 (.c 9 (.c 10 (.q 11 (.q 12 (.c 14 .done))))))) 13 (.c 4 (.q 5 (.c 9 (.c 10 (.q 11 (.q 12 (.c 14 .done)))))))) 13 (.c 3 (.c 4 (.q 5 (.c 9 (.c 10 (.q 11 (.q 12 (.c 14 .done))))))))))))))) (by kernel_rfl) (by kernel_rfl) (by kernel_rfl) (by decide) (fun _ _ d _ _ h => by cases d <;> exact h) (fun Wd hBd => ?_)
  try simp only [Act.put, List.getElem_toArray, List.getElem_cons_zero, List.getElem_cons_succ, List.setIfInBounds_toArray, List.set_cons_zero, List.set_cons_succ]
  have B0 := below_up HB1.out hBd
  have X0 := HX1.out.below hBd
  refine pt_q (v := ?_) rfl (by rfl) ?_ ?_
  rotate_left
  · intro w' hBw'
    first | (go_simp; done) | (go_simp; with_reducible rfl)
  try simp only [Act.put, List.getElem_toArray, List.getElem_cons_zero, List.getElem_cons_succ, List.setIfInBounds_toArray, List.set_cons_zero, List.set_cons_succ]
  refine pt_q (v := ?_) rfl (by rfl) ?_ ?_
  rotate_left
  · intro w' hBw'
    first | (go_simp; done) | (go_simp; with_reducible rfl)
  try simp only [Act.put, List.getElem_toArray, List.getElem_cons_zero, List.getElem_cons_succ, List.setIfInBounds_toArray, List.set_cons_zero, List.set_cons_succ]
  refine pt_q (v := ?_) rfl (by rfl) ?_ ?_
  rotate_left
  · intro w' hBw'
    first | (go_simp; done) | (go_simp; with_reducible rfl)
  try simp only [Act.put, List.getElem_toArray, List.getElem_cons_zero, List.getElem_cons_succ, List.setIfInBounds_toArray, List.set_cons_zero, List.set_cons_succ]
  refine pt_q (v := ?_) rfl (by rfl) ?_ ?_
  rotate_left
  · intro w' hBw'
    first | (go_simp; done) | (go_simp; with_reducible rfl)
  try simp only [Act.put, List.getElem_toArray, List.getElem_cons_zero, List.getElem_cons_succ, List.setIfInBounds_toArray, List.set_cons_zero, List.set_cons_succ]
  refine pt_q (v := ?_) rfl (by rfl) ?_ ?_
  rotate_left
  · intro w' hBw'
    first | (go_simp; done) | (go_simp; with_reducible rfl)
  try simp only [Act.put, List.getElem_toArray, List.getElem_cons_zero, List.getElem_cons_succ, List.setIfInBounds_toArray, List.set_cons_zero, List.set_cons_succ]
  refine pt_q (v := ?_) rfl (by rfl) ?_ ?_
  rotate_left
  · intro w' hBw'
    first | (go_simp; done) | (go_simp; with_reducible rfl)
  try simp only [Act.put, List.getElem_toArray, List.getElem_cons_zero, List.getElem_cons_succ, List.setIfInBounds_toArray, List.set_cons_zero, List.set_cons_succ]
  refine pt_f ?_ ?_
  · refine pt_step rfl (by rfl) (fun K hK => ?_)
    go_simp
    refine (upToDot_c _ hl4 W0.heap.size 84 _ X0).mono ?_
    rintro en w1 hU
    obtain ⟨rfl, hb0, X1⟩ := hU.yes HC.out
    have B1 := but_below B0 hb0 (fun k e => by subst e; exact Nat.le_refl _) (Nat.le_refl _)
    refine hK.out _ _ (hb0.mono fun k _ e => by subst e; exact Nat.le_refl _) ?_
    clear hK K
    try simp only [Act.put, List.getElem_toArray, List.getElem_cons_zero, List.getElem_cons_succ, List.setIfInBounds_toArray, List.set_cons_zero, List.set_cons_succ]
    refine pt_f ?_ ?_
    · refine pt_step rfl (by rfl) (fun K hK => ?_)
      go_simp
      refine (bounded_c la hla 4294967295 (by decide) _ (HT.out.up (below_up HB0.out B1))).mono ?_
      rintro en w2 hU
      obtain ⟨rfl, hb1⟩ := hU.yes HN.out
      have B2 := below_up B1 hb1
      have X2 := X1.below hb1
      refine hK.out _ _ (But.of_below hb1) ?_
      clear hK K
      try simp only [Act.put, List.getElem_toArray, List.getElem_cons_zero, List.getElem_cons_succ, List.setIfInBounds_toArray, List.set_cons_zero, List.set_cons_succ]
      refine pt_q (v := ?_) rfl (by rfl) ?_ ?_
      rotate_left
      · intro w' hBw'
        first | (go_simp; done) | (go_simp; with_reducible rfl)
      try simp only [Act.put, List.getElem_toArray, List.getElem_cons_zero, List.getElem_cons_succ, List.setIfInBounds_toArray, List.set_cons_zero, List.set_cons_succ]
      refine pt_f ?_ ?_
      · refine pt_step rfl (by rfl) (fun K hK => ?_)
        go_simp
        refine (rest_c lb W0.heap.size 84 _ X2).mono ?_
        rintro en w3 ⟨rfl, hb2⟩
        have B3 := but_below B2 hb2 (fun k e => by subst e; exact Nat.le_refl _) (Nat.le_refl _)
        have X3 : W0.heap.size < w3.heap.size := Nat.lt_of_lt_of_le X2.lt hb2.size
        refine hK.out _ _ (hb2.mono fun k _ e => by subst e; exact Nat.le_refl _) ?_
        clear hK K
        try simp only [Act.put, List.getElem_toArray, List.getElem_cons_zero, List.getElem_cons_succ, List.setIfInBounds_toArray, List.set_cons_zero, List.set_cons_succ]
        refine pt_f ?_ ?_
        · refine pt_step rfl (by rfl) (fun K hK => ?_)
          go_simp
          refine (bounded_c lb hlb 4294967295 (by decide) _ (HT.out.up (below_up HB0.out B3))).mono ?_
          rintro en w4 hU
          obtain ⟨rfl, hb3⟩ := hU.gives HM.out
          exact ⟨rfl, EndE.no HE.out (below_up HB0.out (below_up B3 hb3))⟩
        · refine pt_step rfl (by rfl) (fun K hK => ?_)
          go_simp
          have hA3 := RowAt.new w3 #[.int .u32 0, .int .u32 0] 25
          have hq3 := below_alloc w3 (.cells #[.int .u32 0, .int .u32 0] 25)
          obtain ⟨wA3, hwA3⟩ : ∃ x, w3.alloc (.cells #[.int .u32 0, .int .u32 0] 25) = x := ⟨_, rfl⟩
          rw [hwA3] at hA3 hq3 ⊢
          have B4 := below_up B3 hq3
          have A4 : RowAt wA3 w3.heap.size #[.int .u32 0, .int .u32 0] 25 := hA3
          clear hwA3 hA3
          have hx3 := X3
          have X4 : W0.heap.size < wA3.heap.size := Nat.lt_of_lt_of_le X3 hq3.size
          refine hK.out _ _ (But.of_below hq3) ?_
          clear hK K
          try simp only [Act.put, List.getElem_toArray, List.getElem_cons_zero, List.getElem_cons_succ, List.setIfInBounds_toArray, List.set_cons_zero, List.set_cons_succ]
          refine pt_c ?_
          refine pt_step rfl (by rfl) (fun K hK => ?_)
          go_simp
          refine (bounded_c lb hlb 4294967295 (by decide) _ (HT.out.up (below_up HB0.out B4))).mono ?_
          rintro en w5 hU
          obtain ⟨rfl, hb4⟩ := hU.gives HM.out
          exact ⟨rfl, EndE.no HE.out (below_up HB0.out (below_up B4 hb4))⟩
      · refine pt_step rfl (by rfl) (fun K hK => ?_)
        go_simp
        have hA2 := RowAt.new w2 #[.int .u32 0, .int .u32 0] 25
        have hq2 := below_alloc w2 (.cells #[.int .u32 0, .int .u32 0] 25)
        obtain ⟨wA2, hwA2⟩ : ∃ x, w2.alloc (.cells #[.int .u32 0, .int .u32 0] 25) = x := ⟨_, rfl⟩
        rw [hwA2] at hA2 hq2 ⊢
        have B3 := below_up B2 hq2
        have X3 := X2.below hq2
        have A3 : RowAt wA2 w2.heap.size #[.int .u32 0, .int .u32 0] 25 := hA2
        have hx2 : W0.heap.size < w2.heap.size := X2.lt
        clear hwA2 hA2
        refine hK.out _ _ (But.of_below hq2) ?_
        clear hK K
        try simp only [Act.put, List.getElem_toArray, List.getElem_cons_zero, List.getElem_cons_succ, List.setIfInBounds_toArray, List.set_cons_zero, List.set_cons_succ]
        refine pt_c ?_
        refine pt_step rfl (by rfl) (fun K hK => ?_)
        go_simp
        refine (rest_c lb W0.heap.size 84 _ X3).mono ?_
        rintro en w4 ⟨rfl, hb3⟩
        have B4 := but_below B3 hb3 (fun k e => by subst e; exact Nat.le_refl _) (Nat.le_refl _)
        have X4 : W0.heap.size < w4.heap.size := Nat.lt_of_lt_of_le X3.lt hb3.size
        have A4 : RowAt w4 w2.heap.size #[.int .u32 0, .int .u32 0] 25 := (hb3.same _ A3.lt (by omega)).trans A3
        refine hK.out _ _ (hb3.mono fun k _ e => by subst e; exact Nat.le_refl _) ?_
        clear hK K
        try simp only [Act.put, List.getElem_toArray, List.getElem_cons_zero, List.getElem_cons_succ, List.setIfInBounds_toArray, List.set_cons_zero, List.set_cons_succ]
        refine pt_c ?_
        refine pt_step rfl (by rfl) (fun K hK => ?_)
        go_simp
        refine (bounded_c lb hlb 4294967295 (by decide) _ (HT.out.up (below_up HB0.out B4))).mono ?_
        rintro en w5 hU
        obtain ⟨rfl, hb4⟩ := hU.gives HM.out
        exact ⟨rfl, EndE.no HE.out (below_up HB0.out (below_up B4 hb4))⟩
    · refine pt_step rfl (by rfl) (fun K hK => ?_)
      go_simp
      have hA1 := RowAt.new w1 #[.int .u32 0, .int .u32 0] 25
      have hq1 := below_alloc w1 (.cells #[.int .u32 0, .int .u32 0] 25)
      obtain ⟨wA1, hwA1⟩ : ∃ x, w1.alloc (.cells #[.int .u32 0, .int .u32 0] 25) = x := ⟨_, rfl⟩
      rw [hwA1] at hA1 hq1 ⊢
      have B2 := below_up B1 hq1
      have X2 := X1.below hq1
      have A2 : RowAt wA1 w1.heap.size #[.int .u32 0, .int .u32 0] 25 := hA1
      have hx1 : W0.heap.size < w1.heap.size := X1.lt
      clear hwA1 hA1
      refine hK.out _ _ (But.of_below hq1) ?_
      clear hK K
      try simp only [Act.put, List.getElem_toArray, List.getElem_cons_zero, List.getElem_cons_succ, List.setIfInBounds_toArray, List.set_cons_zero, List.set_cons_succ]
      refine pt_c ?_
      refine pt_step rfl (by rfl) (fun K hK => ?_)
      go_simp
      refine (bounded_c la hla 4294967295 (by decide) _ (HT.out.up (below_up HB0.out B2))).mono ?_
      rintro en w3 hU
      obtain ⟨rfl, hb2⟩ := hU.yes HN.out
      have B3 := below_up B2 hb2
      have X3 := X2.below hb2
      have A3 := A2.below hb2
      refine hK.out _ _ (But.of_below hb2) ?_
      clear hK K
      try simp only [Act.put, List.getElem_toArray, List.getElem_cons_zero, List.getElem_cons_succ, List.setIfInBounds_toArray, List.set_cons_zero, List.set_cons_succ]
      refine pt_q (v := ?_) rfl (by rfl) ?_ ?_
      rotate_left
      · intro w' hBw'
        first | (go_simp; done) | (go_simp; with_reducible rfl)
      try simp only [Act.put, List.getElem_toArray, List.getElem_cons_zero, List.getElem_cons_succ, List.setIfInBounds_toArray, List.set_cons_zero, List.set_cons_succ]
      refine pt_c ?_
      refine pt_step rfl (by rfl) (fun K hK => ?_)
      go_simp
      refine (rest_c lb W0.heap.size 84 _ X3).mono ?_
      rintro en w4 ⟨rfl, hb3⟩
      have B4 := but_below B3 hb3 (fun k e => by subst e; exact Nat.le_refl _) (Nat.le_refl _)
      have X4 : W0.heap.size < w4.heap.size := Nat.lt_of_lt_of_le X3.lt hb3.size
      have A4 : RowAt w4 w1.heap.size #[.int .u32 0, .int .u32 0] 25 := (hb3.same _ A3.lt (by omega)).trans A3
      refine hK.out _ _ (hb3.mono fun k _ e => by subst e; exact Nat.le_refl _) ?_
      clear hK K
      try simp only [Act.put, List.getElem_toArray, List.getElem_cons_zero, List.getElem_cons_succ, List.setIfInBounds_toArray, List.set_cons_zero, List.set_cons_succ]
      refine pt_c ?_
      refine pt_step rfl (by rfl) (fun K hK => ?_)
      go_simp
      refine (bounded_c lb hlb 4294967295 (by decide) _ (HT.out.up (below_up HB0.out B4))).mono ?_
      rintro en w5 hU
      obtain ⟨rfl, hb4⟩ := hU.gives HM.out
      exact ⟨rfl, EndE.no HE.out (below_up HB0.out (below_up B4 hb4))⟩
  · refine pt_step rfl (by rfl) (fun K hK => ?_)
    go_simp
    have hA0 := RowAt.new Wd #[.int .u32 0, .int .u32 0] 25
    have hq0 := below_alloc Wd (.cells #[.int .u32 0, .int .u32 0] 25)
    obtain ⟨wA0, hwA0⟩ : ∃ x, Wd.alloc (.cells #[.int .u32 0, .int .u32 0] 25) = x := ⟨_, rfl⟩
    rw [hwA0] at hA0 hq0 ⊢
    have B1 := below_up B0 hq0
    have X1 := X0.below hq0
    have A1 : RowAt wA0 Wd.heap.size #[.int .u32 0, .int .u32 0] 25 := hA0
    have hx0 : W0.heap.size < Wd.heap.size := X0.lt
    clear hwA0 hA0
    refine hK.out _ _ (But.of_below hq0) ?_
    clear hK K
    try simp only [Act.put, List.getElem_toArray, List.getElem_cons_zero, List.getElem_cons_succ, List.setIfInBounds_toArray, List.set_cons_zero, List.set_cons_succ]
    refine pt_c ?_
    refine pt_step rfl (by rfl) (fun K hK => ?_)
    go_simp
    refine (upToDot_c _ hl4 W0.heap.size 84 _ X1).mono ?_
    rintro en w2 hU
    obtain ⟨rfl, hb1, X2⟩ := hU.yes HC.out
    have B2 := but_below B1 hb1 (fun k e => by subst e; exact Nat.le_refl _) (Nat.le_refl _)
    have A2 : RowAt w2 Wd.heap.size #[.int .u32 0, .int .u32 0] 25 := (hb1.same _ A1.lt (by omega)).trans A1
    refine hK.out _ _ (hb1.mono fun k _ e => by subst e; exact Nat.le_refl _) ?_
    clear hK K
    try simp only [Act.put, List.getElem_toArray, List.getElem_cons_zero, List.getElem_cons_succ, List.setIfInBounds_toArray, List.set_cons_zero, List.set_cons_succ]
    refine pt_c ?_
    refine pt_step rfl (by rfl) (fun K hK => ?_)
    go_simp
    refine (bounded_c la hla 4294967295 (by decide) _ (HT.out.up (below_up HB0.out B2))).mono ?_
    rintro en w3 hU
    obtain ⟨rfl, hb2⟩ := hU.yes HN.out
    have B3 := below_up B2 hb2
    have X3 := X2.below hb2
    have A3 := A2.below hb2
    refine hK.out _ _ (But.of_below hb2) ?_
    clear hK K
    try simp only [Act.put, List.getElem_toArray, List.getElem_cons_zero, List.getElem_cons_succ, List.setIfInBounds_toArray, List.set_cons_zero, List.set_cons_succ]
    refine pt_q (v := ?_) rfl (by rfl) ?_ ?_
    rotate_left
    · intro w' hBw'
      first | (go_simp; done) | (go_simp; with_reducible rfl)
    try simp only [Act.put, List.getElem_toArray, List.getElem_cons_zero, List.getElem_cons_succ, List.setIfInBounds_toArray, List.set_cons_zero, List.set_cons_succ]
    refine pt_c ?_
    refine pt_step rfl (by rfl) (fun K hK => ?_)
    go_simp
    refine (rest_c lb W0.heap.size 84 _ X3).mono ?_
    rintro en w4 ⟨rfl, hb3⟩
    have B4 := but_below B3 hb3 (fun k e => by subst e; exact Nat.le_refl _) (Nat.le_refl _)
    have X4 : W0.heap.size < w4.heap.size := Nat.lt_of_lt_of_le X3.lt hb3.size
    have A4 : RowAt w4 Wd.heap.size #[.int .u32 0, .int .u32 0] 25 := (hb3.same _ A3.lt (by omega)).trans A3
    refine hK.out _ _ (hb3.mono fun k _ e => by subst e; exact Nat.le_refl _) ?_
    clear hK K
    try simp only [Act.put, List.getElem_toArray, List.getElem_cons_zero, List.getElem_cons_succ, List.setIfInBounds_toArray, List.set_cons_zero, List.set_cons_succ]
    refine pt_c ?_
    refine pt_step rfl (by rfl) (fun K hK => ?_)
    go_simp
    refine (bounded_c lb hlb 4294967295 (by decide) _ (HT.out.up (below_up HB0.out B4))).mono ?_
    rintro en w5 hU
    obtain ⟨rfl, hb4⟩ := hU.gives HM.out
    exact ⟨rfl, EndE.no HE.out (below_up HB0.out (below_up B4 hb4))⟩
set_option maxHeartbeats 4000000 in
set_option maxRecDepth 100000 in
theorem endpoint_well (l : List UInt8) (hl : l.length ≤ 281474976710656) (w : World) (hT : NmT w) (h : l ≠ Dig.nobodyL) (h2 : l.take 4 = Dig.ipnL) (la lb : List UInt8) (hc : Dig.cut 46 (l.drop 4) = some (la, lb)) (n0 m0 : Nat) (hn : Dig.toNum la 4294967295 = some n0) (hm : Dig.toNum lb 4294967295 = some m0) :
    Calls Tryd.prog 40 #[strV l] w (EndE l w) := by
  have HT := Lib.hid hT
  have hr0 := RowAt.new w #[.int .u32 0, .int .u32 0] 25
  have hB0 := below_alloc w (.cells #[.int .u32 0, .int .u32 0] 25)
  have hz0 : (w.alloc (.cells #[.int .u32 0, .int .u32 0] 25)).heap.size = w.heap.size + 1 := by simp
  clear hT
  have hbe : (l == [100, 116, 110, 58, 110, 111, 110, 101]) = false := beq_eq_false_iff_ne.2 h
  have HE := Lib.hid (show Dig.endP l = if n0 = 0 then none else some (n0, m0) by unfold Dig.endP; rw [if_neg h, if_pos h2]; simp only [hc, hn, hm])
  have HP := Lib.hid h2
  have hl4 : (l.drop 4).length ≤ 281474976710656 := by rw [List.length_drop]; omega
  have hcs := Dig.cut_some hc
  have hll := congrArg List.length hcs.1
  simp only [List.length_append, List.length_cons] at hll
  have hla : la.length ≤ 281474976710656 := by omega
  have hlb : lb.length ≤ 281474976710656 := by omega
  clear hcs hll
  have HC := Lib.hid hc
  have HN := Lib.hid hn
  have HM := Lib.hid hm
  have hn0 := Dig.toNum_le hn
  have hm0 := Dig.toNum_le hm
  have hwn : IntKind.u32.wrap (n0 : Int) = (n0 : Int) := by rw [IntKind.wrap_u32]; omega
  have hwm : IntKind.u32.wrap (m0 : Int) = (m0 : Int) := by rw [IntKind.wrap_u32]; omega
  clear h h2 hc hn hm
  go_enter Tryd.func40, Tryd.ntmps40
  go_wp2_with (first
    | (go_at_call 80; refine (cutIpn_yes l HP.out _).mono ?_; rintro e w1 ⟨rfl, rfl⟩)
    | (go_at_call 39; (with_reducible refine (nmMust_yes _ _).mono ?_); rintro e w3 ⟨rfl, rfl⟩))
  obtain ⟨W0, hW0⟩ : ∃ x, w.alloc (.cells #[.int .u32 0, .int .u32 0] 25) = x := ⟨_, rfl⟩
  rw [hW0] at hr0 hB0 hz0 ⊢
  have hX1 := RowAt.new W0 #[strV (l.drop 4)] 84
  have HB1 := Lib.hid (below_alloc W0 (.cells #[strV (l.drop 4)] 84))
  obtain ⟨W1, hW1⟩ : ∃ x, W0.alloc (.cells #[strV (l.drop 4)] 84) = x := ⟨_, rfl⟩
  try rw [← hz0]
  rw [hW1] at hX1 HB1 ⊢
  have HX1 := Lib.hid hX1
  have HB0 := Lib.hid hB0
  have HR0 := Lib.hid hr0
  have HZ0 := Lib.hid hz0
  clear hW0 hW1 hX1 hB0 hr0 hz0
  refine wp_cutP (fun a' W3 => ∃ b6, a' = { tmps := #[strV l, undef, .pointer (some ⟨w.heap.size, 0, none⟩), strV (List.drop 4 l), .bool true, .pointer (some ⟨W0.heap.size, 0, none⟩), .pointer (some ⟨b6, 0, none⟩), strV l, .bool false, undef, .tuple #[strV (List.drop 4 l), .bool true], strV l, .tuple #[strV (List.drop 4 l), .bool true], strV (List.drop 4 l), .bool true, .bool true, .tuple #[], strV (List.drop 4 l), .agg #[strV (List.drop 4 l)], .pointer (some ⟨W0.heap.size, 0, none⟩), .pointer (some ⟨W0.heap.size, 0, none⟩), .pointer (some ⟨W0.heap.size, 0, none⟩), .pointer (some ⟨W0.heap.size, 0, none⟩), strV la, .int .u64 n0, .int .u32 n0, .pointer (some ⟨W0.heap.size, 0, none⟩), .pointer (some ⟨W0.heap.size, 0, none⟩), .pointer (some ⟨W0.heap.size, 0, none⟩), strV lb, .int .u64 m0, .int .u32 m0, .agg #[.int .u32 n0, .int .u32 m0], undef, undef, undef, undef, undef], defers := [] } ∧ Below W0.heap.size W0 W3 ∧ RowAt W3 b6 #[.int .u32 n0, .int .u32 m0] 25) ?reg ?rest
  case reg =>
    refine wp_region_pt (fun k => W0.heap.size ≤ k) (.q 0 (.q 1 (.q 2 (.q 6 (.q 7 (.q 8 (.f 3 (.f 4 (.q 5 (.f 9 (.f 10 (.q 11 (.q 12 (.c 13 (.c 14 .done)))) 13 (.c 10 (.q 11 (.q 12 (.c 14 .done))))) 13 (.c 9 (.c 10 (.q 11 (.q 12 (.c 14 .done))))))) 13 (.c 4 (.q 5 (.c 9 (.c 10 (.q 11 (.q 12 (.c 14 .done)))))))) 13 (.c 3 (.c 4 (.q 5 (.c 9 (.c 10 (.q 11 (.q 12 (.c 14 .done))))))))))))))) (by kernel_rfl) (by kernel_rfl) (by kernel_rfl) (by decide) onlyN_panic (fun Wd hBd => ?_)
    try simp only [Act.put, List.getElem_toArray, List.getElem_cons_zero, List.getElem_cons_succ, List.setIfInBounds_toArray, List.set_cons_zero, List.set_cons_succ]
    have B0 := below_up HB1.out hBd
    have X0 := HX1.out.below hBd
    refine pt_q (v := ?_) rfl (by rfl) ?_ ?_
    rotate_left
    · intro w' hBw'
      first | (go_simp; done) | (go_simp; with_reducible rfl)
    try simp only [Act.put, List.getElem_toArray, List.getElem_cons_zero, List.getElem_cons_succ, List.setIfInBounds_toArray, List.set_cons_zero, List.set_cons_succ]
    refine pt_q (v := ?_) rfl (by rfl) ?_ ?_
    rotate_left
    · intro w' hBw'
      first | (go_simp; done) | (go_simp; with_reducible rfl)
    try simp only [Act.put, List.getElem_toArray, List.getElem_cons_zero, List.getElem_cons_succ, List.setIfInBounds_toArray, List.set_cons_zero, List.set_cons_succ]
    refine pt_q (v := ?_) rfl (by rfl) ?_ ?_
    rotate_left
    · intro w' hBw'
      first | (go_simp; done) | (go_simp; with_reducible rfl)
    try simp only [Act.put, List.getElem_toArray, List.getElem_cons_zero, List.getElem_cons_succ, List.setIfInBounds_toArray, List.set_cons_zero, List.set_cons_succ]
    refine pt_q (v := ?_) rfl (by rfl) ?_ ?_
    rotate_left
    · intro w' hBw'
      first | (go_simp; done) | (go_simp; with_reducible rfl)
    try simp only [Act.put, List.getElem_toArray, List.getElem_cons_zero, List.getElem_cons_succ, List.setIfInBounds_toArray, List.set_cons_zero, List.set_cons_succ]
    refine pt_q (v := ?_) rfl (by rfl) ?_ ?_
    rotate_left
    · intro w' hBw'
      first | (go_simp; done) | (go_simp; with_reducible rfl)
    try simp only [Act.put, List.getElem_toArray, List.getElem_cons_zero, List.getElem_cons_succ, List.setIfInBounds_toArray, List.set_cons_zero, List.set_cons_succ]
    refine pt_q (v := ?_) rfl (by rfl) ?_ ?_
    rotate_left
    · intro w' hBw'
      first | (go_simp; done) | (go_simp; with_reducible rfl)
    try simp only [Act.put, List.getElem_toArray, List.getElem_cons_zero, List.getElem_cons_succ, List.setIfInBounds_toArray, List.set_cons_zero, List.set_cons_succ]
    refine pt_f ?_ ?_
    · refine pt_step rfl (by rfl) (fun K hK => ?_)
      go_simp
      refine (upToDot_c _ hl4 W0.heap.size 84 _ X0).mono ?_
      rintro en w1 hU
      obtain ⟨rfl, hb0, X1⟩ := hU.yes HC.out
      have B1 := but_below B0 hb0 (fun k e => by subst e; exact Nat.le_refl _) (Nat.le_refl _)
      refine hK.out _ _ (hb0.mono fun k _ e => by subst e; exact Nat.le_refl _) ?_
      clear hK K
      try simp only [Act.put, List.getElem_toArray, List.getElem_cons_zero, List.getElem_cons_succ, List.setIfInBounds_toArray, List.set_cons_zero, List.set_cons_succ]
      refine pt_f ?_ ?_
      · refine pt_step rfl (by rfl) (fun K hK => ?_)
        go_simp
        refine (bounded_c la hla 4294967295 (by decide) _ (HT.out.up (below_up HB0.out B1))).mono ?_
        rintro en w2 hU
        obtain ⟨rfl, hb1⟩ := hU.yes HN.out
        have B2 := below_up B1 hb1
        have X2 := X1.below hb1
        refine hK.out _ _ (But.of_below hb1) ?_
        clear hK K
        try simp only [Act.put, List.getElem_toArray, List.getElem_cons_zero, List.getElem_cons_succ, List.setIfInBounds_toArray, List.set_cons_zero, List.set_cons_succ]
        refine pt_q (v := ?_) rfl (by rfl) ?_ ?_
        rotate_left
        · intro w' hBw'
          first | (go_simp; done) | (go_simp; with_reducible rfl)
        try simp only [Act.put, List.getElem_toArray, List.getElem_cons_zero, List.getElem_cons_succ, List.setIfInBounds_toArray, List.set_cons_zero, List.set_cons_succ]
        refine pt_f ?_ ?_
        · refine pt_step rfl (by rfl) (fun K hK => ?_)
          go_simp
          refine (rest_c lb W0.heap.size 84 _ X2).mono ?_
          rintro en w3 ⟨rfl, hb2⟩
          have B3 := but_below B2 hb2 (fun k e => by subst e; exact Nat.le_refl _) (Nat.le_refl _)
          have X3 : W0.heap.size < w3.heap.size := Nat.lt_of_lt_of_le X2.lt hb2.size
          refine hK.out _ _ (hb2.mono fun k _ e => by subst e; exact Nat.le_refl _) ?_
          clear hK K
          try simp only [Act.put, List.getElem_toArray, List.getElem_cons_zero, List.getElem_cons_succ, List.setIfInBounds_toArray, List.set_cons_zero, List.set_cons_succ]
          refine pt_f ?_ ?_
          · refine pt_step rfl (by rfl) (fun K hK => ?_)
            go_simp
            refine (bounded_c lb hlb 4294967295 (by decide) _ (HT.out.up (below_up HB0.out B3))).mono ?_
            rintro en w4 hU
            obtain ⟨rfl, hb3⟩ := hU.yes HM.out
            have B4 := below_up B3 hb3
            have X4 : W0.heap.size < w4.heap.size := Nat.lt_of_lt_of_le X3 hb3.size
            refine hK.out _ _ (But.of_below hb3) ?_
            clear hK K
            try simp only [Act.put, List.getElem_toArray, List.getElem_cons_zero, List.getElem_cons_succ, List.setIfInBounds_toArray, List.set_cons_zero, List.set_cons_succ]
            refine pt_q (v := ?_) rfl (by rfl) ?_ ?_
            rotate_left
            · intro w' hBw'
              first | (go_simp; done) | (go_simp; with_reducible rfl)
            try simp only [Act.put, List.getElem_toArray, List.getElem_cons_zero, List.getElem_cons_succ, List.setIfInBounds_toArray, List.set_cons_zero, List.set_cons_succ]
            refine pt_q (v := ?_) rfl (by rfl) ?_ ?_
            rotate_left
            · intro w' hBw'
              first | (go_simp; done) | (go_simp; with_reducible rfl)
            try simp only [Act.put, List.getElem_toArray, List.getElem_cons_zero, List.getElem_cons_succ, List.setIfInBounds_toArray, List.set_cons_zero, List.set_cons_succ]
            refine pt_c ?_
            refine pt_step rfl (by rfl) (fun K hK => ?_)
            go_simp
            have hA4 := RowAt.new w4 #[.int .u32 0, .int .u32 0] 25
            have hq4 := below_alloc w4 (.cells #[.int .u32 0, .int .u32 0] 25)
            obtain ⟨wA4, hwA4⟩ : ∃ x, w4.alloc (.cells #[.int .u32 0, .int .u32 0] 25) = x := ⟨_, rfl⟩
            rw [hwA4] at hA4 hq4 ⊢
            have B5 := below_up B4 hq4
            have A5 : RowAt wA4 w4.heap.size #[.int .u32 0, .int .u32 0] 25 := hA4
            clear hwA4 hA4
            have hx4 := X4
            have X5 : W0.heap.size < wA4.heap.size := Nat.lt_of_lt_of_le X4 hq4.size
            refine hK.out _ _ (But.of_below hq4) ?_
            clear hK K
            try simp only [Act.put, List.getElem_toArray, List.getElem_cons_zero, List.getElem_cons_succ, List.setIfInBounds_toArray, List.set_cons_zero, List.set_cons_succ]
            refine pt_c ?_
            refine pt_put_row rfl (by rfl) 25 _ _ rfl w4.heap.size [.int .u32 n0, .int .u32 m0] rfl rfl A5 rfl (by kernel_rfl) rfl (by omega) ?_
            try simp only [Act.put, List.getElem_toArray, List.getElem_cons_zero, List.getElem_cons_succ, List.setIfInBounds_toArray, List.set_cons_zero, List.set_cons_succ]
            intro w9 A9 hb9
            have B9 := but_below B5 hb9 (fun k e => by subst e; omega) (Nat.le_refl _)
            refine pt_done ?_
            exact ⟨rfl, _, rfl, B9, A9⟩
          · refine pt_step rfl (by rfl) (fun K hK => ?_)
            go_simp
            have hA3 := RowAt.new w3 #[.int .u32 0, .int .u32 0] 25
            have hq3 := below_alloc w3 (.cells #[.int .u32 0, .int .u32 0] 25)
            obtain ⟨wA3, hwA3⟩ : ∃ x, w3.alloc (.cells #[.int .u32 0, .int .u32 0] 25) = x := ⟨_, rfl⟩
            rw [hwA3] at hA3 hq3 ⊢
            have B4 := below_up B3 hq3
            have A4 : RowAt wA3 w3.heap.size #[.int .u32 0, .int .u32 0] 25 := hA3
            clear hwA3 hA3
            have hx3 := X3
            have X4 : W0.heap.size < wA3.heap.size := Nat.lt_of_lt_of_le X3 hq3.size
            refine hK.out _ _ (But.of_below hq3) ?_
            clear hK K
            try simp only [Act.put, List.getElem_toArray, List.getElem_cons_zero, List.getElem_cons_succ, List.setIfInBounds_toArray, List.set_cons_zero, List.set_cons_succ]
            refine pt_c ?_
            refine pt_step rfl (by rfl) (fun K hK => ?_)
            go_simp
            refine (bounded_c lb hlb 4294967295 (by decide) _ (HT.out.up (below_up HB0.out B4))).mono ?_
            rintro en w5 hU
            obtain ⟨rfl, hb4⟩ := hU.yes HM.out
            have B5 := below_up B4 hb4
            have X5 : W0.heap.size < w5.heap.size := Nat.lt_of_lt_of_le X4 hb4.size
            have A5 := A4.below hb4
            refine hK.out _ _ (But.of_below hb4) ?_
            clear hK K
            try simp only [Act.put, List.getElem_toArray, List.getElem_cons_zero, List.getElem_cons_succ, List.setIfInBounds_toArray, List.set_cons_zero, List.set_cons_succ]
            refine pt_q (v := ?_) rfl (by rfl) ?_ ?_
            rotate_left
            · intro w' hBw'
              first | (go_simp; done) | (go_simp; with_reducible rfl)
            try simp only [Act.put, List.getElem_toArray, List.getElem_cons_zero, List.getElem_cons_succ, List.setIfInBounds_toArray, List.set_cons_zero, List.set_cons_succ]
            refine pt_q (v := ?_) rfl (by rfl) ?_ ?_
            rotate_left
            · intro w' hBw'
              first | (go_simp; done) | (go_simp; with_reducible rfl)
            try simp only [Act.put, List.getElem_toArray, List.getElem_cons_zero, List.getElem_cons_succ, List.setIfInBounds_toArray, List.set_cons_zero, List.set_cons_succ]
            refine pt_c ?_
            refine pt_put_row rfl (by rfl) 25 _ _ rfl w3.heap.size [.int .u32 n0, .int .u32 m0] rfl rfl A5 rfl (by kernel_rfl) rfl (by omega) ?_
            try simp only [Act.put, List.getElem_toArray, List.getElem_cons_zero, List.getElem_cons_succ, List.setIfInBounds_toArray, List.set_cons_zero, List.set_cons_succ]
            intro w9 A9 hb9
            have B9 := but_below B5 hb9 (fun k e => by subst e; omega) (Nat.le_refl _)
            refine pt_done ?_
            exact ⟨rfl, _, rfl, B9, A9⟩
        · refine pt_step rfl (by rfl) (fun K hK => ?_)
          go_simp
          have hA2 := RowAt.new w2 #[.int .u32 0, .int .u32 0] 25
          have hq2 := below_alloc w2 (.cells #[.int .u32 0, .int .u32 0] 25)
          obtain ⟨wA2, hwA2⟩ : ∃ x, w2.alloc (.cells #[.int .u32 0, .int .u32 0] 25) = x := ⟨_, rfl⟩
          rw [hwA2] at hA2 hq2 ⊢
          have B3 := below_up B2 hq2
          have X3 := X2.below hq2
          have A3 : RowAt wA2 w2.heap.size #[.int .u32 0, .int .u32 0] 25 := hA2
          have hx2 : W0.heap.size < w2.heap.size := X2.lt
          clear hwA2 hA2
          refine hK.out _ _ (But.of_below hq2) ?_
          clear hK K
          try simp only [Act.put, List.getElem_toArray, List.getElem_cons_zero, List.getElem_cons_succ, List.setIfInBounds_toArray, List.set_cons_zero, List.set_cons_succ]
          refine pt_c ?_
          refine pt_step rfl (by rfl) (fun K hK => ?_)
          go_simp
          refine (rest_c lb W0.heap.size 84 _ X3).mono ?_
          rintro en w4 ⟨rfl, hb3⟩
          have B4 := but_below B3 hb3 (fun k e => by subst e; exact Nat.le_refl _) (Nat.le_refl _)
          have X4 : W0.heap.size < w4.heap.size := Nat.lt_of_lt_of_le X3.lt hb3.size
          have A4 : RowAt w4 w2.heap.size #[.int .u32 0, .int .u32 0] 25 := (hb3.same _ A3.lt (by omega)).trans A3
          refine hK.out _ _ (hb3.mono fun k _ e => by subst e; exact Nat.le_refl _) ?_
          clear hK K
          try simp only [Act.put, List.getElem_toArray, List.getElem_cons_zero, List.getElem_cons_succ, List.setIfInBounds_toArray, List.set_cons_zero, List.set_cons_succ]
          refine pt_c ?_
          refine pt_step rfl (by rfl) (fun K hK => ?_)
          go_simp
          refine (bounded_c lb hlb 4294967295 (by decide) _ (HT.out.up (below_up HB0.out B4))).mono ?_
          rintro en w5 hU
          obtain ⟨rfl, hb4⟩ := hU.yes HM.out
          have B5 := below_up B4 hb4
          have X5 : W0.heap.size < w5.heap.size := Nat.lt_of_lt_of_le X4 hb4.size
          have A5 := A4.below hb4
          refine hK.out _ _ (But.of_below hb4) ?_
          clear hK K
          try simp only [Act.put, List.getElem_toArray, List.getElem_cons_zero, List.getElem_cons_succ, List.setIfInBounds_toArray, List.set_cons_zero, List.set_cons_succ]
          refine pt_q (v := ?_) rfl (by rfl) ?_ ?_
          rotate_left
          · intro w' hBw'
            first | (go_simp; done) | (go_simp; with_reducible rfl)
          try simp only [Act.put, List.getElem_toArray, List.getElem_cons_zero, List.getElem_cons_succ, List.setIfInBounds_toArray, List.set_cons_zero, List.set_cons_succ]
          refine pt_q (v := ?_) rfl (by rfl) ?_ ?_
          rotate_left
          · intro w' hBw'
            first | (go_simp; done) | (go_simp; with_reducible rfl)
          try simp only [Act.put, List.getElem_toArray, List.getElem_cons_zero, List.getElem_cons_succ, List.setIfInBounds_toArray, List.set_cons_zero, List.set_cons_succ]
          refine pt_c ?_
          refine pt_put_row rfl (by rfl) 25 _ _ rfl w2.heap.size [.int .u32 n0, .int .u32 m0] rfl rfl A5 rfl (by kernel_rfl) rfl (by omega) ?_
          try simp only [Act.put, List.getElem_toArray, List.getElem_cons_zero, List.getElem_cons_succ, List.setIfInBounds_toArray, List.set_cons_zero, List.set_cons_succ]
          intro w9 A9 hb9
          have B9 := but_below B5 hb9 (fun k e => by subst e; omega) (Nat.le_refl _)
          refine pt_done ?_
          exact ⟨rfl, _, rfl, B9, A9⟩
      · refine pt_step rfl (by rfl) (fun K hK => ?_)
        go_simp
        have hA1 := RowAt.new w1 #[.int .u32 0, .int .u32 0] 25
        have hq1 := below_alloc w1 (.cells #[.int .u32 0, .int .u32 0] 25)
        obtain ⟨wA1, hwA1⟩ : ∃ x, w1.alloc (.cells #[.int .u32 0, .int .u32 0] 25) = x := ⟨_, rfl⟩
        rw [hwA1] at hA1 hq1 ⊢
        have B2 := below_up B1 hq1
        have X2 := X1.below hq1
        have A2 : RowAt wA1 w1.heap.size #[.int .u32 0, .int .u32 0] 25 := hA1
        have hx1 : W0.heap.size < w1.heap.size := X1.lt
        clear hwA1 hA1
        refine hK.out _ _ (But.of_below hq1) ?_
        clear hK K
        try simp only [Act.put, List.getElem_toArray, List.getElem_cons_zero, List.getElem_cons_succ, List.setIfInBounds_toArray, List.set_cons_zero, List.set_cons_succ]
        refine pt_c ?_
        refine pt_step rfl (by rfl) (fun K hK => ?_)
        go_simp
        refine (bounded_c la hla 4294967295 (by decide) _ (HT.out.up (below_up HB0.out B2))).mono ?_
        rintro en w3 hU
        obtain ⟨rfl, hb2⟩ := hU.yes HN.out
        have B3 := below_up B2 hb2
        have X3 := X2.below hb2
        have A3 := A2.below hb2
        refine hK.out _ _ (But.of_below hb2) ?_
        clear hK K
        try simp only [Act.put, List.getElem_toArray, List.getElem_cons_zero, List.getElem_cons_succ, List.setIfInBounds_toArray, List.set_cons_zero, List.set_cons_succ]
        refine pt_q (v := ?_) rfl (by rfl) ?_ ?_
        rotate_left
        · intro w' hBw'
          first | (go_simp; done) | (go_simp; with_reducible rfl)
        try simp only [Act.put, List.getElem_toArray, List.getElem_cons_zero, List.getElem_cons_succ, List.setIfInBounds_toArray, List.set_cons_zero, List.set_cons_succ]
        refine pt_c ?_
        refine pt_step rfl (by rfl) (fun K hK => ?_)
        go_simp
        refine (rest_c lb W0.heap.size 84 _ X3).mono ?_
        rintro en w4 ⟨rfl, hb3⟩
        have B4 := but_below B3 hb3 (fun k e => by subst e; exact Nat.le_refl _) (Nat.le_refl _)
        have X4 : W0.heap.size < w4.heap.size := Nat.lt_of_lt_of_le X3.lt hb3.size
        have A4 : RowAt w4 w1.heap.size #[.int .u32 0, .int .u32 0] 25 := (hb3.same _ A3.lt (by omega)).trans A3
        refine hK.out _ _ (hb3.mono fun k _ e => by subst e; exact Nat.le_refl _) ?_
        clear hK K
        try simp only [Act.put, List.getElem_toArray, List.getElem_cons_zero, List.getElem_cons_succ, List.setIfInBounds_toArray, List.set_cons_zero, List.set_cons_succ]
        refine pt_c ?_
        refine pt_step rfl (by rfl) (fun K hK => ?_)
        go_simp
        refine (bounded_c lb hlb 4294967295 (by decide) _ (HT.out.up (below_up HB0.out B4))).mono ?_
        rintro en w5 hU
        obtain ⟨rfl, hb4⟩ := hU.yes HM.out
        have B5 := below_up B4 hb4
        have X5 : W0.heap.size < w5.heap.size := Nat.lt_of_lt_of_le X4 hb4.size
        have A5 := A4.below hb4
        refine hK.out _ _ (But.of_below hb4) ?_
        clear hK K
        try simp only [Act.put, List.getElem_toArray, List.getElem_cons_zero, List.getElem_cons_succ, List.setIfInBounds_toArray, List.set_cons_zero, List.set_cons_succ]
        refine pt_q (v := ?_) rfl (by rfl) ?_ ?_
        rotate_left
        · intro w' hBw'
          first | (go_simp; done) | (go_simp; with_reducible rfl)
        try simp only [Act.put, List.getElem_toArray, List.getElem_cons_zero, List.getElem_cons_succ, List.setIfInBounds_toArray, List.set_cons_zero, List.set_cons_succ]
        refine pt_q (v := ?_) rfl (by rfl) ?_ ?_
        rotate_left
        · intro w' hBw'
          first | (go_simp; done) | (go_simp; with_reducible rfl)
        try simp only [Act.put, List.getElem_toArray, List.getElem_cons_zero, List.getElem_cons_succ, List.setIfInBounds_toArray, List.set_cons_zero, List.set_cons_succ]
        refine pt_c ?_
        refine pt_put_row rfl (by rfl) 25 _ _ rfl w1.heap.size [.int .u32 n0, .int .u32 m0] rfl rfl A5 rfl (by kernel_rfl) rfl (by omega) ?_
        try simp only [Act.put, List.getElem_toArray, List.getElem_cons_zero, List.getElem_cons_succ, List.setIfInBounds_toArray, List.set_cons_zero, List.set_cons_succ]
        intro w9 A9 hb9
        have B9 := but_below B5 hb9 (fun k e => by subst e; omega) (Nat.le_refl _)
        refine pt_done ?_
        exact ⟨rfl, _, rfl, B9, A9⟩
    · refine pt_step rfl (by rfl) (fun K hK => ?_)
      go_simp
      have hA0 := RowAt.new Wd #[.int .u32 0, .int .u32 0] 25
      have hq0 := below_alloc Wd (.cells #[.int .u32 0, .int .u32 0] 25)
      obtain ⟨wA0, hwA0⟩ : ∃ x, Wd.alloc (.cells #[.int .u32 0, .int .u32 0] 25) = x := ⟨_, rfl⟩
      rw [hwA0] at hA0 hq0 ⊢
      have B1 := below_up B0 hq0
      have X1 := X0.below hq0
      have A1 : RowAt wA0 Wd.heap.size #[.int .u32 0, .int .u32 0] 25 := hA0
      have hx0 : W0.heap.size < Wd.heap.size := X0.lt
      clear hwA0 hA0
      refine hK.out _ _ (But.of_below hq0) ?_
      clear hK K
      try simp only [Act.put, List.getElem_toArray, List.getElem_cons_zero, List.getElem_cons_succ, List.setIfInBounds_toArray, List.set_cons_zero, List.set_cons_succ]
      refine pt_c ?_
      refine pt_step rfl (by rfl) (fun K hK => ?_)
      go_simp
      refine (upToDot_c _ hl4 W0.heap.size 84 _ X1).mono ?_
      rintro en w2 hU
      obtain ⟨rfl, hb1, X2⟩ := hU.yes HC.out
      have B2 := but_below B1 hb1 (fun k e => by subst e; exact Nat.le_refl _) (Nat.le_refl _)
      have A2 : RowAt w2 Wd.heap.size #[.int .u32 0, .int .u32 0] 25 := (hb1.same _ A1.lt (by omega)).trans A1
      refine hK.out _ _ (hb1.mono fun k _ e => by subst e; exact Nat.le_refl _) ?_
      clear hK K
      try simp only [Act.put, List.getElem_toArray, List.getElem_cons_zero, List.getElem_cons_succ, List.setIfInBounds_toArray, List.set_cons_zero, List.set_cons_succ]
      refine pt_c ?_
      refine pt_step rfl (by rfl) (fun K hK => ?_)
      go_simp
      refine (bounded_c la hla 4294967295 (by decide) _ (HT.out.up (below_up HB0.out B2))).mono ?_
      rintro en w3 hU
      obtain ⟨rfl, hb2⟩ := hU.yes HN.out
      have B3 := below_up B2 hb2
      have X3 := X2.below hb2
      have A3 := A2.below hb2
      refine hK.out _ _ (But.of_below hb2) ?_
      clear hK K
      try simp only [Act.put, List.getElem_toArray, List.getElem_cons_zero, List.getElem_cons_succ, List.setIfInBounds_toArray, List.set_cons_zero, List.set_cons_succ]
      refine pt_q (v := ?_) rfl (by rfl) ?_ ?_
      rotate_left
      · intro w' hBw'
        first | (go_simp; done) | (go_simp; with_reducible rfl)
      try simp only [Act.put, List.getElem_toArray, List.getElem_cons_zero, List.getElem_cons_succ, List.setIfInBounds_toArray, List.set_cons_zero, List.set_cons_succ]
      refine pt_c ?_
      refine pt_step rfl (by rfl) (fun K hK => ?_)
      go_simp
      refine (rest_c lb W0.heap.size 84 _ X3).mono ?_
      rintro en w4 ⟨rfl, hb3⟩
      have B4 := but_below B3 hb3 (fun k e => by subst e; exact Nat.le_refl _) (Nat.le_refl _)
      have X4 : W0.heap.size < w4.heap.size := Nat.lt_of_lt_of_le X3.lt hb3.size
      have A4 : RowAt w4 Wd.heap.size #[.int .u32 0, .int .u32 0] 25 := (hb3.same _ A3.lt (by omega)).trans A3
      refine hK.out _ _ (hb3.mono fun k _ e => by subst e; exact Nat.le_refl _) ?_
      clear hK K
      try simp only [Act.put, List.getElem_toArray, List.getElem_cons_zero, List.getElem_cons_succ, List.setIfInBounds_toArray, List.set_cons_zero, List.set_cons_succ]
      refine pt_c ?_
      refine pt_step rfl (by rfl) (fun K hK => ?_)
      go_simp
      refine (bounded_c lb hlb 4294967295 (by decide) _ (HT.out.up (below_up HB0.out B4))).mono ?_
      rintro en w5 hU
      obtain ⟨rfl, hb4⟩ := hU.yes HM.out
      have B5 := below_up B4 hb4
      have X5 : W0.heap.size < w5.heap.size := Nat.lt_of_lt_of_le X4 hb4.size
      have A5 := A4.below hb4
      refine hK.out _ _ (But.of_below hb4) ?_
      clear hK K
      try simp only [Act.put, List.getElem_toArray, List.getElem_cons_zero, List.getElem_cons_succ, List.setIfInBounds_toArray, List.set_cons_zero, List.set_cons_succ]
      refine pt_q (v := ?_) rfl (by rfl) ?_ ?_
      rotate_left
      · intro w' hBw'
        first | (go_simp; done) | (go_simp; with_reducible rfl)
      try simp only [Act.put, List.getElem_toArray, List.getElem_cons_zero, List.getElem_cons_succ, List.setIfInBounds_toArray, List.set_cons_zero, List.set_cons_succ]
      refine pt_q (v := ?_) rfl (by rfl) ?_ ?_
      rotate_left
      · intro w' hBw'
        first | (go_simp; done) | (go_simp; with_reducible rfl)
      try simp only [Act.put, List.getElem_toArray, List.getElem_cons_zero, List.getElem_cons_succ, List.setIfInBounds_toArray, List.set_cons_zero, List.set_cons_succ]
      refine pt_c ?_
      refine pt_put_row rfl (by rfl) 25 _ _ rfl Wd.heap.size [.int .u32 n0, .int .u32 m0] rfl rfl A5 rfl (by kernel_rfl) rfl (by omega) ?_
      try simp only [Act.put, List.getElem_toArray, List.getElem_cons_zero, List.getElem_cons_succ, List.setIfInBounds_toArray, List.set_cons_zero, List.set_cons_succ]
      intro w9 A9 hb9
      have B9 := but_below B5 hb9 (fun k e => by subst e; omega) (Nat.le_refl _)
      refine pt_done ?_
      exact ⟨rfl, _, rfl, B9, A9⟩
  case rest =>
    rintro a' W3 ⟨b6, rfl, B, A⟩
    have f0 := A.cell (i := 0) rfl
    have f1 := A.cell (i := 1) rfl
    have R9 := HR0.out.below B
    have B9 := Lib.hid B
    clear B
    have y0 := R9.fz 0
    have y1 := R9.fz 1
    have e0 := R9.cell (i := 0) rfl
    have e1 := R9.cell (i := 1) rfl
    by_cases h0 : n0 = 0
    · have HE2 := Lib.hid (HE.out.trans (if_pos h0))
      have hd : decide ((n0 : Int) > 0) = false := by simp; omega
      have hd2 : decide (0 < n0) = false := decide_eq_false (by omega)
      go_wp2_with (go_at_call 39; (with_reducible refine (nmMust_no _ _).mono ?_); rintro e w3 ⟨rfl, rfl⟩)
      exact ⟨rfl, EndE.no HE2.out (below_up HB0.out B9.out)⟩
    · have HE2 := Lib.hid (HE.out.trans (if_neg h0))
      have hd : decide ((n0 : Int) > 0) = true := by simp; omega
      have hd2 : decide (0 < n0) = true := decide_eq_true (by omega)
      go_wp2_with (go_at_call 39; (with_reducible refine (nmMust_yes _ _).mono ?_); rintro e w3 ⟨rfl, rfl⟩)
      have RA := (R9.set 0 (.int .u32 n0)).set 1 (.int .u32 m0)
      have g0 := RA.cell (i := 0) (v := .int .u32 n0) rfl
      have g1 := RA.cell (i := 1) (v := .int .u32 m0) rfl
      refine bodyPost_ret (v := .agg #[.int .u32 n0, .int .u32 m0]) (by simp [results, Tryd.results40, go_sem, g0, g1]) rfl ?_
      refine EndE.yes HE2.out ?_
      exact ((below_up HB0.out B9.out).setCell (by simp) _).setCell (by simp) _
theorem endpoint_c (l : List UInt8) (hl : l.length ≤ 281474976710656) (w : World) (hT : NmT w) : Calls Tryd.prog 40 #[strV l] w (EndE l w) := by
  by_cases h : l = Dig.nobodyL
  · exact endpoint_none l hl w hT h
  · by_cases h2 : l.take 4 = Dig.ipnL
    · cases hc : Dig.cut 46 (l.drop 4) with
      | none => exact endpoint_nocut l hl w hT h h2 hc
      | some p =>
        obtain ⟨la, lb⟩ := p
        cases hn : Dig.toNum la 4294967295 with
        | none => exact endpoint_noa l hl w hT h h2 la lb hc hn
        | some n0 =>
          cases hm : Dig.toNum lb 4294967295 with
          | none => exact endpoint_nob l hl w hT h h2 la lb hc n0 hn hm
          | some m0 => exact endpoint_well l hl w hT h h2 la lb hc n0 m0 hn hm
    · exact endpoint_pre l hl w hT h h2
end Go.Proofs.YtpfgepgjpnekdaaDoor
