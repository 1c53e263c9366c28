/-
  NmPl, NmPt, NmWk: several texts in one (bundle.py).
-/
import Derived.Test.YtpfgepgjpnekdaaDoorNmP33
import Derived.Test.YtpfgepgjpnekdaaDoorNmP37
import Derived.Test.YtpfgepgjpnekdaaDoorNmP29
import Derived.Test.YtpfgepgjpnekdaaDoorNmP31
namespace Go.Proofs.YtpfgepgjpnekdaaDoor
open Go.RowKit Trc Cb
set_option linter.unusedSimpArgs false
set_option linter.unusedVariables false
namespace Dig
theorem toNum_mk (n bound : Nat) (hb : bound < 10000000000000000000) (h : n ≤ bound) : toNum (Lib.decDigits n) bound = some n :=
  (toNum_iff _ _ _ hb).2 ⟨all_dec n, lean_dec n, by rw [val_dec]; exact h, (val_dec n).symm⟩
theorem dec_no {c : UInt8} (h : isD c = false) (n : Nat) : c ∉ Lib.decDigits n := fun hc => by
  have := List.all_eq_true.1 (all_dec n) c hc
  rw [h] at this; cases this
theorem endP_mk (n m : Nat) (h0 : n ≠ 0) (hn : n < 4294967296) (hm : m < 4294967296) : endP (toldP n m) = some (n, m) := by
  have ht : toldP n m = ipnL ++ (Lib.decDigits n ++ 46 :: Lib.decDigits m) := by unfold toldP; rw [if_neg h0]; simp
  have hd : (toldP n m).drop 4 = Lib.decDigits n ++ 46 :: Lib.decDigits m := by rw [ht]; rfl
  have hk : (toldP n m).take 4 = ipnL := by rw [ht]; rfl
  unfold endP
  rw [if_neg (by rw [ht]; intro e; simp [ipnL, nobodyL] at e), if_pos hk, hd, cut_mk (dec_no (by decide) n)]
  simp only
  rw [toNum_mk n _ (by decide) (by omega), toNum_mk m _ (by decide) (by omega)]
  simp only
  rw [if_neg h0]
theorem endP_none : endP (toldP 0 0) = some (0, 0) := by
  rw [show toldP 0 0 = nobodyL from rfl]
  unfold endP
  rw [if_pos rfl]
theorem told_no (n m : Nat) : (32 : UInt8) ∉ toldP n m := by
  unfold toldP
  split
  · decide
  · simp only [List.mem_append, not_or]
    exact ⟨⟨⟨by decide, dec_no (by decide) n⟩, by decide⟩, dec_no (by decide) m⟩
theorem nameQ_mk (n m t s : Nat) (h0 : n ≠ 0) (hn : n < 4294967296) (hm : m < 4294967296) (ht : t ≤ 4611686018427387903) (hs : s < 4294967296) : nameQ (nameT n m t s) = some ⟨n, m, t, s⟩ := by
  have hT : nameT n m t s = toldP n m ++ 32 :: (Lib.decDigits t ++ 32 :: Lib.decDigits s) := by unfold nameT; simp
  unfold nameQ
  rw [hT, cut_mk (told_no n m)]
  simp only
  rw [endP_mk n m h0 hn hm]
  simp only
  rw [cut_mk (dec_no (by decide) t)]
  simp only
  rw [toNum_mk t _ (by decide) ht]
  simp only
  rw [toNum_mk s _ (by decide) (by omega)]
  simp only
  rw [if_neg h0]
theorem nameT_len (n m t s : Nat) (hn : n < 4294967296) (hm : m < 4294967296) (ht : t < 18446744073709551616) (hs : s < 4294967296) : (nameT n m t s).length ≤ 100 := by
  have := told_len n m hn hm
  have := dec_len t ht
  have := dec_len s (by omega)
  unfold nameT
  simp only [List.length_append, List.length_cons, List.length_nil]
  omega
/-- Right names with one text are one. -/
theorem nameT_inj {n m t s n' m' t' s' : Nat} (h : chkN n t = 0) (h' : chkN n' t' = 0) (hn : n < 4294967296) (hm : m < 4294967296) (hs : s < 4294967296) (hn' : n' < 4294967296) (hm' : m' < 4294967296) (hs' : s' < 4294967296)
    (e : nameT n m t s = nameT n' m' t' s') : n = n' ∧ m = m' ∧ t = t' ∧ s = s' := by
  have c : ∀ {a b : Nat}, chkN a b = 0 → a ≠ 0 ∧ b ≤ 4611686018427387903 := fun {a b} h => by
    unfold chkN at h
    split at h
    · cases h
    · omega
  have h1 := nameQ_mk n m t s (c h).1 hn hm (c h).2 hs
  have h2 := nameQ_mk n' m' t' s' (c h').1 hn' hm' (c h').2 hs'
  rw [e, h2] at h1
  simp only [Option.some.injEq, N4.mk.injEq] at h1
  exact ⟨h1.1.symm, h1.2.1.symm, h1.2.2.1.symm, h1.2.2.2.symm⟩
end Dig
theorem uI_inj {a b : Nat} (h : uI a = uI b) : a = b := by
  simp only [It.mk.injEq] at h; omega
theorem lI_inj {a b : List It} (h : lI a = lI b) : a = b := by
  simp only [It.mk.injEq] at h; exact h.2.2.2.2
theorem nmI_inj {n m t s n' m' t' s' : Nat} (h0 : n ≠ 0) (h0' : n' ≠ 0) (e : nmI n m t s = nmI n' m' t' s') : n = n' ∧ m = m' ∧ t = t' ∧ s = s' := by
  unfold nmI epI at e
  rw [if_neg h0, if_neg h0'] at e
  have e1 := lI_inj e
  simp only [List.cons.injEq, and_true] at e1
  have e2 := lI_inj e1.1
  simp only [List.cons.injEq, and_true, true_and] at e2
  have e3 := lI_inj e2
  simp only [List.cons.injEq, and_true] at e3
  exact ⟨uI_inj e3.1, uI_inj e3.2, uI_inj e1.2.1, uI_inj e1.2.2⟩
theorem cmp3_cases (a b : Int) : (a < b ∧ cmp3 a b = -1) ∨ (a = b ∧ cmp3 a b = 0) ∨ (b < a ∧ cmp3 a b = 1) := by
  unfold cmp3
  split
  · exact .inl ⟨‹_›, rfl⟩
  · split
    · exact .inr (.inr ⟨‹_›, rfl⟩)
    · exact .inr (.inl ⟨by omega, rfl⟩)
abbrev lexB (a b c d a' b' c' d' : Int) : Prop := a < a' ∨ a = a' ∧ (b < b' ∨ b = b' ∧ (c < c' ∨ c = c' ∧ d < d'))
theorem nmCmp_cases (x y : Nm) : (lexB x.node x.service x.time x.seq y.node y.service y.time y.seq ∧ nmCmp x y = -1) ∨ ((x.node = y.node ∧ x.service = y.service ∧ x.time = y.time ∧ x.seq = y.seq) ∧ nmCmp x y = 0) ∨ (lexB y.node y.service y.time y.seq x.node x.service x.time x.seq ∧ nmCmp x y = 1) := by
  have e : nmCmp x y = if cmp3 x.node y.node = 0 then (if cmp3 x.service y.service = 0 then (if cmp3 x.time y.time = 0 then (if cmp3 x.seq y.seq = 0 then 0 else cmp3 x.seq y.seq) else cmp3 x.time y.time) else cmp3 x.service y.service) else cmp3 x.node y.node := rfl
  rcases cmp3_cases x.node y.node with ⟨h1, c1⟩ | ⟨h1, c1⟩ | ⟨h1, c1⟩
  · exact .inl ⟨.inl h1, by rw [e, if_neg (by rw [c1]; decide), c1]⟩
  · rw [if_pos c1] at e
    rcases cmp3_cases x.service y.service with ⟨h2, c2⟩ | ⟨h2, c2⟩ | ⟨h2, c2⟩
    · exact .inl ⟨.inr ⟨h1, .inl h2⟩, by rw [e, if_neg (by rw [c2]; decide), c2]⟩
    · rw [if_pos c2] at e
      rcases cmp3_cases x.time y.time with ⟨h3, c3⟩ | ⟨h3, c3⟩ | ⟨h3, c3⟩
      · exact .inl ⟨.inr ⟨h1, .inr ⟨h2, .inl h3⟩⟩, by rw [e, if_neg (by rw [c3]; decide), c3]⟩
      · rw [if_pos c3] at e
        rcases cmp3_cases x.seq y.seq with ⟨h4, c4⟩ | ⟨h4, c4⟩ | ⟨h4, c4⟩
        · exact .inl ⟨.inr ⟨h1, .inr ⟨h2, .inr ⟨h3, h4⟩⟩⟩, by rw [e, if_neg (by rw [c4]; decide), c4]⟩
        · exact .inr (.inl ⟨⟨h1, h2, h3, h4⟩, by rw [e, if_pos c4]⟩)
        · exact .inr (.inr ⟨.inr ⟨h1.symm, .inr ⟨h2.symm, .inr ⟨h3.symm, h4⟩⟩⟩, by rw [e, if_neg (by rw [c4]; decide), c4]⟩)
      · exact .inr (.inr ⟨.inr ⟨h1.symm, .inr ⟨h2.symm, .inl h3⟩⟩, by rw [e, if_neg (by rw [c3]; decide), c3]⟩)
    · exact .inr (.inr ⟨.inr ⟨h1.symm, .inl h2⟩, by rw [e, if_neg (by rw [c2]; decide), c2]⟩)
  · exact .inr (.inr ⟨.inl h1, by rw [e, if_neg (by rw [c1]; decide), c1]⟩)
theorem nmCmp_neg (x y : Nm) : nmCmp x y = -nmCmp y x := by
  have h1 := nmCmp_cases x y
  have h2 := nmCmp_cases y x
  unfold lexB at h1 h2
  omega
theorem nmCmp_zero (x y : Nm) : nmCmp x y = 0 ↔ x = y := by
  have h1 := nmCmp_cases x y
  unfold lexB at h1
  constructor
  · intro h
    exact Nm.ext (by omega) (by omega) (by omega) (by omega)
  · rintro rfl
    omega
theorem nmCmp_b (x y : Nm) : -1 ≤ nmCmp x y ∧ nmCmp x y ≤ 1 := by
  have h1 := nmCmp_cases x y
  omega
theorem nmCmp_trans {x y z : Nm} (h1 : nmCmp x y < 0) (h2 : nmCmp y z < 0) : nmCmp x z < 0 := by
  have c1 := nmCmp_cases x y
  have c2 := nmCmp_cases y z
  have c3 := nmCmp_cases x z
  unfold lexB at c1 c2 c3
  omega
end Go.Proofs.YtpfgepgjpnekdaaDoor

namespace Go.Proofs.YtpfgepgjpnekdaaDoor
open Go.RowKit Trc Cb
set_option linter.unusedSimpArgs false
set_option linter.unusedVariables false
theorem readU_ep0 : readU (epI 0 0) = [1, 0] := by decide
theorem readU_ep (n m : Nat) (h : n ≠ 0) : readU (epI n m) = [2, (n : Int), (m : Int)] := by
  unfold epI
  rw [if_neg h]
  simp [readU, usK, usT, It.k, It.l, It.n]
theorem readU_nm (n m t s : Nat) (h : n ≠ 0) : readU (nmI n m t s) = [(t : Int), (s : Int), 2, (n : Int), (m : Int)] := by
  unfold nmI epI
  rw [if_neg h]
  simp [readU, usK, usT, It.k, It.l, It.n]
theorem of_epI (n m : Nat) (hn : n < 4294967296) (hm : m < 4294967296) (hc : Dig.chkP n m = 0) : ofV (epI n m) = .tuple #[epV n m, .int .i64 0] := by
  have h0 : n = 0 → m = 0 := fun h => by
    unfold Dig.chkP at hc
    split at hc
    · cases hc
    · rename_i h2; exact Decidable.byContradiction fun h3 => h2 ⟨h, h3⟩
  by_cases h : n = 0
  · obtain rfl := h
    obtain rfl := h0 rfl
    have ha : ofA (epI 0 0) = 0 := by unfold ofA; rw [readU_ep0]; rfl
    have hb : ofB (epI 0 0) = 0 := by unfold ofB; rw [readU_ep0]; rfl
    have hk : okE (epI 0 0) = true := by unfold okE; rw [ha, hb, sameB_refl, hc]; rfl
    unfold ofV
    rw [hk, ha, hb]
    rfl
  · have ha : ofA (epI n m) = n := by unfold ofA; rw [readU_ep n m h]; simp [g5]; omega
    have hb : ofB (epI n m) = m := by unfold ofB; rw [readU_ep n m h]; simp [g5]; omega
    have hk : okE (epI n m) = true := by unfold okE; rw [ha, hb, sameB_refl, hc]; rfl
    unfold ofV
    rw [hk, ha, hb]
    rfl
theorem nof_nmI (n m t s : Nat) (hn : n < 4294967296) (hm : m < 4294967296) (hs : s < 4294967296) (hc : Dig.chkN n t = 0) : nofV (nmI n m t s) = .tuple #[nmW n m t s, .int .i64 0] := by
  have h : n ≠ 0 := fun h => by
    unfold Dig.chkN at hc
    rw [if_pos (.inl h)] at hc
    cases hc
  have ha : naN (nmI n m t s) = n := by unfold naN; rw [readU_nm n m t s h]; simp [g5]; omega
  have hb : naM (nmI n m t s) = m := by unfold naM; rw [readU_nm n m t s h]; simp [g5]; omega
  have hct : naT (nmI n m t s) = t := by unfold naT; rw [readU_nm n m t s h]; simp [g5]
  have hd : naS (nmI n m t s) = s := by unfold naS; rw [readU_nm n m t s h]; simp [g5]; omega
  have hk : okN (nmI n m t s) = true := by unfold okN; rw [ha, hb, hct, hd, sameB_refl, hc]; rfl
  unfold nofV
  rw [hk, ha, hb, hct, hd]
  rfl
theorem parse_mk (n m : Nat) (hn : n < 4294967296) (hm : m < 4294967296) (hc : Dig.chkP n m = 0) : Dig.parseP (Dig.toldP n m) = ((n, m), 0) := by
  have h0 : n = 0 → m = 0 := fun h => by
    unfold Dig.chkP at hc
    split at hc
    · cases hc
    · rename_i h2; exact Decidable.byContradiction fun h3 => h2 ⟨h, h3⟩
  have hl : ¬ 100 < (Dig.toldP n m).length := by
    have := Dig.nameT_len n m 0 0 hn hm (by decide) (by decide)
    unfold Dig.nameT at this
    simp only [List.length_append] at this
    omega
  unfold Dig.parseP
  rw [if_neg hl]
  by_cases h : n = 0
  · obtain rfl := h
    obtain rfl := h0 rfl
    rw [Dig.endP_none]
  · rw [Dig.endP_mk n m h hn hm]
end Go.Proofs.YtpfgepgjpnekdaaDoor

namespace Go.Proofs.YtpfgepgjpnekdaaDoor
open Go.RowKit Trc
set_option linter.unusedSimpArgs false
set_option linter.unusedVariables false
theorem dec1 (k : Nat) (h : k < 10) : Lib.decDigits k = [UInt8.ofNat (48 + k)] := by rw [Lib.decDigits, dif_pos h]
theorem wk_t1 (w : World) (hT : NmT w) : Calls Tryd.prog 15 #[.agg #[.int .u32 3, .int .u32 5]] w (Ret (.tuple #[.string ⟨#[105, 112, 110, 58, 51, 46, 53]⟩, .int .i64 0]) w) := by
  have h := text_c 3 5 (by decide) (by decide) w hT
  rw [show Dig.chkP 3 5 = 0 from rfl, if_pos rfl, show Dig.toldP 3 5 = [105, 112, 110, 58, 51, 46, 53] by rw [Dig.toldP, if_neg (by decide), dec1 3 (by decide), dec1 5 (by decide)]; rfl] at h
  exact h
theorem wk_t2 (w : World) (hT : NmT w) : Calls Tryd.prog 15 #[.agg #[.int .u32 0, .int .u32 0]] w (Ret (.tuple #[.string ⟨#[100, 116, 110, 58, 110, 111, 110, 101]⟩, .int .i64 0]) w) := by
  have h := text_c 0 0 (by decide) (by decide) w hT
  rw [show Dig.chkP 0 0 = 0 from rfl, if_pos rfl, show Dig.toldP 0 0 = [100, 116, 110, 58, 110, 111, 110, 101] from rfl] at h
  exact h
theorem wk_t3 (w : World) (hT : NmT w) : Calls Tryd.prog 15 #[.agg #[.int .u32 0, .int .u32 1]] w (Ret (.tuple #[.string ⟨#[]⟩, .int .i64 2]) w) := by
  have h := text_c 0 1 (by decide) (by decide) w hT
  rw [show Dig.chkP 0 1 = 2 from rfl, if_neg (by decide)] at h
  exact h
theorem wk_p (l : List UInt8) (hl : l.length ≤ 100) (n m : Nat) (e : Int) (h : Dig.parseP l = ((n, m), e)) (w : World) (hT : NmT w) : Calls Tryd.prog 10 #[strV l] w (Ret (.tuple #[epV n m, .int .i64 e]) w) :=
  (parse_c l (by omega) w hT).mono fun en w' hh => ⟨by rw [hh.2, h], hh.1⟩
theorem wk_p1 (w : World) (hT : NmT w) : Calls Tryd.prog 10 #[.string ⟨#[105, 112, 110, 58, 51, 46, 53]⟩] w (Ret (.tuple #[.agg #[.int .u32 3, .int .u32 5], .int .i64 0]) w) := wk_p [105, 112, 110, 58, 51, 46, 53] (by decide) 3 5 0 (by decide) w hT
theorem wk_p2 (w : World) (hT : NmT w) : Calls Tryd.prog 10 #[.string ⟨#[105, 112, 110, 58, 48, 51, 46, 53]⟩] w (Ret (.tuple #[.agg #[.int .u32 0, .int .u32 0], .int .i64 130]) w) := wk_p [105, 112, 110, 58, 48, 51, 46, 53] (by decide) 0 0 130 (by decide) w hT
theorem wk_p3 (w : World) (hT : NmT w) : Calls Tryd.prog 10 #[.string ⟨#[100, 116, 110, 58, 110, 111, 110, 101]⟩] w (Ret (.tuple #[.agg #[.int .u32 0, .int .u32 0], .int .i64 0]) w) := wk_p [100, 116, 110, 58, 110, 111, 110, 101] (by decide) 0 0 0 (by decide) w hT
theorem wk_n (w : World) (hT : NmT w) : Calls Tryd.prog 16 #[.agg #[.int .u32 3, .int .u32 5, .int .u64 7, .int .u32 9]] w (Ret (.tuple #[.string ⟨#[105, 112, 110, 58, 51, 46, 53, 32, 55, 32, 57]⟩, .int .i64 0]) w) := by
  have h := nameText_c 3 5 7 9 (by decide) (by decide) (by decide) (by decide) w hT
  rw [show Dig.chkN 3 7 = 0 from rfl, if_pos rfl, show Dig.nameT 3 5 7 9 = [105, 112, 110, 58, 51, 46, 53, 32, 55, 32, 57] by rw [Dig.nameT, Dig.toldP, if_neg (by decide), dec1 3 (by decide), dec1 5 (by decide), dec1 7 (by decide), dec1 9 (by decide)]; rfl] at h
  exact h
theorem wk_pn (w : World) (hT : NmT w) : Calls Tryd.prog 11 #[.string ⟨#[105, 112, 110, 58, 51, 46, 53, 32, 55]⟩] w (Ret (.tuple #[.agg #[.int .u32 0, .int .u32 0, .int .u64 0, .int .u32 0], .int .i64 130]) w) :=
  (parseName_c [105, 112, 110, 58, 51, 46, 53, 32, 55] (by decide) w hT).mono fun en w' hh => ⟨by rw [hh.2, show Dig.nameP [105, 112, 110, 58, 51, 46, 53, 32, 55] = (⟨0, 0, 0, 0⟩, 130) from rfl]; rfl, hh.1⟩
theorem wk_o (w : World) : Calls Tryd.prog 18 #[.agg #[.int .u32 3, .int .u32 5, .int .u64 7, .int .u32 9], .agg #[.int .u32 3, .int .u32 5, .int .u64 8, .int .u32 0]] w (Ret (.int .i64 (-1)) w) := by
  have h := order_c ⟨3, 5, 7, 9⟩ ⟨3, 5, 8, 0⟩ ⟨rfl, rfl, rfl, rfl⟩ ⟨rfl, rfl, rfl, rfl⟩ w
  rw [show nmCmp ⟨3, 5, 7, 9⟩ ⟨3, 5, 8, 0⟩ = -1 by decide] at h
  exact h
set_option maxHeartbeats 4000000 in
set_option maxRecDepth 100000 in
theorem nmWorks_c (w : World) (hT : NmT w) : Calls Tryd.prog 9 #[] w (Ret (.bool true) w) := by
  have HT := Lib.hid hT
  clear hT
  go_enter Tryd.func9, Tryd.ntmps9
  go_wp2_with fail
  refine (wk_t1 _ HT.out).mono ?_
  rintro en w1 ⟨rfl, hb1⟩
  have B1 : Below w.heap.size w w1 := hb1
  go_wp2_with fail
  refine (wk_t2 _ (HT.out.up B1)).mono ?_
  rintro en w2 ⟨rfl, hb2⟩
  have B2 := below_up B1 hb2
  go_wp2_with fail
  refine (wk_t3 _ (HT.out.up B2)).mono ?_
  rintro en w3 ⟨rfl, hb3⟩
  have B3 := below_up B2 hb3
  go_wp2_with fail
  refine (wk_p1 _ (HT.out.up B3)).mono ?_
  rintro en w4 ⟨rfl, hb4⟩
  have B4 := below_up B3 hb4
  go_wp2_with fail
  have X4 := RowAt.new w4 #[.int .u32 3, .int .u32 5] 25
  have hq := below_alloc w4 (.cells #[.int .u32 3, .int .u32 5] 25)
  obtain ⟨W4, hW⟩ : ∃ x, w4.alloc (.cells #[.int .u32 3, .int .u32 5] 25) = x := ⟨_, rfl⟩
  rw [hW] at X4 hq ⊢
  have D4 := below_up B4 hq
  clear hW hq
  refine (wk_p2 _ (HT.out.up D4)).mono ?_
  rintro en w5 ⟨rfl, hb5⟩
  have B5 := below_up D4 hb5
  replace X4 := X4.below hb5
  go_wp2_with fail
  have X5 := RowAt.new w5 #[.int .u32 0, .int .u32 0] 25
  have hq := below_alloc w5 (.cells #[.int .u32 0, .int .u32 0] 25)
  obtain ⟨W5, hW⟩ : ∃ x, w5.alloc (.cells #[.int .u32 0, .int .u32 0] 25) = x := ⟨_, rfl⟩
  rw [hW] at X5 hq ⊢
  have D5 := below_up B5 hq
  replace X4 := X4.below hq
  clear hW hq
  refine (wk_p3 _ (HT.out.up D5)).mono ?_
  rintro en w6 ⟨rfl, hb6⟩
  have B6 := below_up D5 hb6
  replace X4 := X4.below hb6
  have x0 := X4.cell (i := 0) rfl
  have x1 := X4.cell (i := 1) rfl
  go_wp2_with fail
  clear x0 x1
  have hq0 := below_alloc w6 (.cells #[.int .u32 0, .int .u32 0] 25)
  have Y6 := RowAt.new w6 #[.int .u32 0, .int .u32 0] 25
  have X6 := RowAt.new (w6.alloc (.cells #[.int .u32 0, .int .u32 0] 25)) #[.int .u32 3, .int .u32 5, .int .u64 7, .int .u32 9] 31
  have hq := hq0.alloc (by simp) (.cells #[.int .u32 3, .int .u32 5, .int .u64 7, .int .u32 9] 31)
  replace Y6 := Y6.alloc (.cells #[.int .u32 3, .int .u32 5, .int .u64 7, .int .u32 9] 31)
  simp only [World.size_alloc] at X6
  obtain ⟨W6, hW⟩ : ∃ x, (w6.alloc (.cells #[.int .u32 0, .int .u32 0] 25)).alloc (.cells #[.int .u32 3, .int .u32 5, .int .u64 7, .int .u32 9] 31) = x := ⟨_, rfl⟩
  rw [hW] at X6 Y6 hq ⊢
  have D6 := below_up B6 hq
  replace X4 := X4.below hq
  clear hW hq hq0
  refine (wk_n _ (HT.out.up D6)).mono ?_
  rintro en w7 ⟨rfl, hb7⟩
  have B7 := below_up D6 hb7
  replace X4 := X4.below hb7
  replace X6 := X6.below hb7
  replace Y6 := Y6.below hb7
  go_wp2_with fail
  refine (wk_pn _ (HT.out.up B7)).mono ?_
  rintro en w8 ⟨rfl, hb8⟩
  have B8 := below_up B7 hb8
  replace X4 := X4.below hb8
  replace X6 := X6.below hb8
  replace Y6 := Y6.below hb8
  have hq := below_alloc w8 (.cells #[.int .u32 0, .int .u32 0, .int .u64 0, .int .u32 0] 31)
  replace X4 := X4.below hq
  replace X6 := X6.below hq
  replace Y6 := Y6.below hq
  have D8 := below_up B8 hq
  clear hq
  have x0 := X4.cell (i := 0) rfl
  have x1 := X4.cell (i := 1) rfl
  have y0 := Y6.cell (i := 0) rfl
  have y1 := Y6.cell (i := 1) rfl
  have z0 := X6.cell (i := 0) rfl
  have z1 := X6.cell (i := 1) rfl
  have z2 := X6.cell (i := 2) rfl
  have z3 := X6.cell (i := 3) rfl
  go_wp2_with (first
    | (go_at_call 14; (with_reducible refine (numL_c _ _).mono ?_); rintro en wn ⟨rfl, rfl⟩)
    | (go_at_call 18; refine (wk_o _).mono ?_; rintro en w9 ⟨rfl, hb9⟩))
  go_ret
  exact ⟨rfl, below_up D8 hb9⟩
end Go.Proofs.YtpfgepgjpnekdaaDoor
