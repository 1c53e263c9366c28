/-
  NmOrd, NmPl, NmPt, NmSh, CbT, NmOk: several texts in one (bundle.py).
-/
import Derived.Test.YtpkonagjnfphkaaGreatDoorPmB20
import Derived.Test.YtpkonagjnfphkaaGreatDoorPmB21
import Derived.Test.YtpkonagjnfphkaaGreatDoorPmB30
import Derived.Test.YtpkonagjnfphkaaGreatDoorPmB29
import Derived.Test.YtpkonagjnfphkaaGreatDoorPmB26
import Derived.Test.YtpkonagjnfphkaaGreatDoorPmB10
import Derived.Test.YtpkonagjnfphkaaGreatDoorPmB11
import Derived.Test.YtpkonagjnfphkaaGreatDoorPmB07
import Derived.Test.YtpkonagjnfphkaaGreatDoorPmB08
namespace Go.Proofs.YtpkonagjnfphkaaGreatDoor
open Go.RowKit Srt Trc
set_option linter.unusedSimpArgs false
set_option linter.unusedVariables false

/-- Three ways. -/
def cmp3 (a b : Int) : Int := if a < b then -1 else if b < a then 1 else 0
/-- The first that is not 0. -/
def cmpL : List Int → Int
  | [] => 0
  | c :: r => if c = 0 then cmpL r else c
namespace Trc
def nmPs (x : Nm) : List Int := [x.node, x.service, x.time, x.seq]
def nmCs (x y : Nm) : List Int := [cmp3 x.node y.node, cmp3 x.service y.service, cmp3 x.time y.time, cmp3 x.seq y.seq]
def nmCmp (x y : Nm) : Int := cmpL (nmCs x y)
end Trc
theorem cmpL_at : ∀ (l : List Int) (k : Nat) (hk : k < l.length), (∀ j, j < k → l.getD j 0 = 0) → l[k] ≠ 0 → cmpL l = l[k]
  | c :: r, 0, _, _, h => by simp only [List.getElem_cons_zero] at h ⊢; exact if_neg h
  | c :: r, k + 1, hk, h0, h => by
    have h1 := h0 0 (by omega)
    simp only [List.getD_cons_zero] at h1
    subst h1
    simp only [List.getElem_cons_succ] at h ⊢
    show cmpL r = _
    exact cmpL_at r k (by simpa using hk) (fun j hj => by have := h0 (j + 1) (by omega); simpa using this) h
theorem cmpL_zero : ∀ (l : List Int), (∀ j, j < l.length → l.getD j 0 = 0) → cmpL l = 0
  | [], _ => rfl
  | c :: r, h => by
    have h1 := h 0 (by simp)
    simp only [List.getD_cons_zero] at h1
    subst h1
    show cmpL r = 0
    exact cmpL_zero r (fun j hj => by have := h (j + 1) (by simpa using hj); simpa using this)
abbrev WN : Type := {x : Nm // x.wf}
abbrev wnC (x : WN) : List Value := nmC x.1
def wnCmp (x y : WN) : Int := nmCmp x.1 y.1
theorem wnCmp_lt (x y : WN) : ltc wnCmp x y = decide (x.1.node < y.1.node ∨ x.1.node = y.1.node ∧ (x.1.service < y.1.service ∨ x.1.service = y.1.service ∧ (x.1.time < y.1.time ∨ x.1.time = y.1.time ∧ x.1.seq < y.1.seq))) := by
  unfold ltc wnCmp nmCmp nmCs cmpL cmpL cmpL cmpL cmpL cmp3
  refine decide_eq_decide.2 ?_
  repeat' split
  all_goals omega
theorem wnTO : TO (ltc wnCmp) := by
  refine ⟨fun x y h => ?_, fun x y z h1 h2 => ?_, fun x y h1 h2 => ?_⟩
  · rw [wnCmp_lt] at h ⊢
    have := of_decide_eq_true h
    exact decide_eq_false (by omega)
  · rw [wnCmp_lt] at h1 h2 ⊢
    have := of_decide_eq_false h1
    have := of_decide_eq_false h2
    exact decide_eq_false (by omega)
  · rw [wnCmp_lt] at h1 h2
    have := of_decide_eq_false h1
    have := of_decide_eq_false h2
    exact Subtype.ext (Nm.ext (by omega) (by omega) (by omega) (by omega))
theorem nm_bounds {x : Nm} (h : x.wf) : (0 ≤ x.node ∧ x.node ≤ 4294967295) ∧ (0 ≤ x.service ∧ x.service ≤ 4294967295) ∧ (0 ≤ x.time ∧ x.time ≤ 18446744073709551615) ∧ (0 ≤ x.seq ∧ x.seq ≤ 4294967295) := by
  obtain ⟨h1, h2, h3, h4⟩ := h
  simp [Lit.wf, IntKind.min, IntKind.max, IntKind.signed, IntKind.bits] at h1 h2 h3 h4
  omega
theorem nmCs_at (x y : Nm) : ∀ k, k < 4 → cmp3 ((nmPs x).getD k 0) ((nmPs y).getD k 0) = (nmCs x y).getD k 0
  | 0, _ => rfl
  | 1, _ => rfl
  | 2, _ => rfl
  | 3, _ => rfl
  | k + 4, h => by omega
end Go.Proofs.YtpkonagjnfphkaaGreatDoor

namespace Go.Proofs.YtpkonagjnfphkaaGreatDoor
open Go.RowKit Trc Cb
set_option linter.unusedSimpArgs false
set_option linter.unusedVariables false
namespace Dig
theorem toNum_mk (n bound : Nat) (hb : bound < 10000000000000000000) (h : n ≤ bound) : toNum (Lib.decDigits n) bound = some n :=
  (toNum_iff _ _ _ hb).2 ⟨all_dec n, lean_dec n, by rw [val_dec]; exact h, (val_dec n).symm⟩
theorem dec_no {c : UInt8} (h : isD c = false) (n : Nat) : c ∉ Lib.decDigits n := fun hc => by
  have := List.all_eq_true.1 (all_dec n) c hc
  rw [h] at this; cases this
theorem endP_mk (n m : Nat) (h0 : n ≠ 0) (hn : n < 4294967296) (hm : m < 4294967296) : endP (toldP n m) = some (n, m) := by
  have ht : toldP n m = ipnL ++ (Lib.decDigits n ++ 46 :: Lib.decDigits m) := by unfold toldP; rw [if_neg h0]; simp
  have hd : (toldP n m).drop 4 = Lib.decDigits n ++ 46 :: Lib.decDigits m := by rw [ht]; rfl
  have hk : (toldP n m).take 4 = ipnL := by rw [ht]; rfl
  unfold endP
  rw [if_neg (by rw [ht]; intro e; simp [ipnL, nobodyL] at e), if_pos hk, hd, cut_mk (dec_no (by decide) n)]
  simp only
  rw [toNum_mk n _ (by decide) (by omega), toNum_mk m _ (by decide) (by omega)]
  simp only
  rw [if_neg h0]
theorem endP_none : endP (toldP 0 0) = some (0, 0) := by
  rw [show toldP 0 0 = nobodyL from rfl]
  unfold endP
  rw [if_pos rfl]
theorem told_no (n m : Nat) : (32 : UInt8) ∉ toldP n m := by
  unfold toldP
  split
  · decide
  · simp only [List.mem_append, not_or]
    exact ⟨⟨⟨by decide, dec_no (by decide) n⟩, by decide⟩, dec_no (by decide) m⟩
theorem nameQ_mk (n m t s : Nat) (h0 : n ≠ 0) (hn : n < 4294967296) (hm : m < 4294967296) (ht : t ≤ 4611686018427387903) (hs : s < 4294967296) : nameQ (nameT n m t s) = some ⟨n, m, t, s⟩ := by
  have hT : nameT n m t s = toldP n m ++ 32 :: (Lib.decDigits t ++ 32 :: Lib.decDigits s) := by unfold nameT; simp
  unfold nameQ
  rw [hT, cut_mk (told_no n m)]
  simp only
  rw [endP_mk n m h0 hn hm]
  simp only
  rw [cut_mk (dec_no (by decide) t)]
  simp only
  rw [toNum_mk t _ (by decide) ht]
  simp only
  rw [toNum_mk s _ (by decide) (by omega)]
  simp only
  rw [if_neg h0]
theorem nameT_len (n m t s : Nat) (hn : n < 4294967296) (hm : m < 4294967296) (ht : t < 18446744073709551616) (hs : s < 4294967296) : (nameT n m t s).length ≤ 100 := by
  have := told_len n m hn hm
  have := dec_len t ht
  have := dec_len s (by omega)
  unfold nameT
  simp only [List.length_append, List.length_cons, List.length_nil]
  omega
/-- Right names with one text are one. -/
theorem nameT_inj {n m t s n' m' t' s' : Nat} (h : chkN n t = 0) (h' : chkN n' t' = 0) (hn : n < 4294967296) (hm : m < 4294967296) (hs : s < 4294967296) (hn' : n' < 4294967296) (hm' : m' < 4294967296) (hs' : s' < 4294967296)
    (e : nameT n m t s = nameT n' m' t' s') : n = n' ∧ m = m' ∧ t = t' ∧ s = s' := by
  have c : ∀ {a b : Nat}, chkN a b = 0 → a ≠ 0 ∧ b ≤ 4611686018427387903 := fun {a b} h => by
    unfold chkN at h
    split at h
    · cases h
    · omega
  have h1 := nameQ_mk n m t s (c h).1 hn hm (c h).2 hs
  have h2 := nameQ_mk n' m' t' s' (c h').1 hn' hm' (c h').2 hs'
  rw [e, h2] at h1
  simp only [Option.some.injEq, N4.mk.injEq] at h1
  exact ⟨h1.1.symm, h1.2.1.symm, h1.2.2.1.symm, h1.2.2.2.symm⟩
end Dig
theorem uI_inj {a b : Nat} (h : uI a = uI b) : a = b := by
  simp only [It.mk.injEq] at h; omega
theorem lI_inj {a b : List It} (h : lI a = lI b) : a = b := by
  simp only [It.mk.injEq] at h; exact h.2.2.2.2
theorem nmI_inj {n m t s n' m' t' s' : Nat} (h0 : n ≠ 0) (h0' : n' ≠ 0) (e : nmI n m t s = nmI n' m' t' s') : n = n' ∧ m = m' ∧ t = t' ∧ s = s' := by
  unfold nmI epI at e
  rw [if_neg h0, if_neg h0'] at e
  have e1 := lI_inj e
  simp only [List.cons.injEq, and_true] at e1
  have e2 := lI_inj e1.1
  simp only [List.cons.injEq, and_true, true_and] at e2
  have e3 := lI_inj e2
  simp only [List.cons.injEq, and_true] at e3
  exact ⟨uI_inj e3.1, uI_inj e3.2, uI_inj e1.2.1, uI_inj e1.2.2⟩
theorem cmp3_cases (a b : Int) : (a < b ∧ cmp3 a b = -1) ∨ (a = b ∧ cmp3 a b = 0) ∨ (b < a ∧ cmp3 a b = 1) := by
  unfold cmp3
  split
  · exact .inl ⟨‹_›, rfl⟩
  · split
    · exact .inr (.inr ⟨‹_›, rfl⟩)
    · exact .inr (.inl ⟨by omega, rfl⟩)
abbrev lexB (a b c d a' b' c' d' : Int) : Prop := a < a' ∨ a = a' ∧ (b < b' ∨ b = b' ∧ (c < c' ∨ c = c' ∧ d < d'))
theorem nmCmp_cases (x y : Nm) : (lexB x.node x.service x.time x.seq y.node y.service y.time y.seq ∧ nmCmp x y = -1) ∨ ((x.node = y.node ∧ x.service = y.service ∧ x.time = y.time ∧ x.seq = y.seq) ∧ nmCmp x y = 0) ∨ (lexB y.node y.service y.time y.seq x.node x.service x.time x.seq ∧ nmCmp x y = 1) := by
  have e : nmCmp x y = if cmp3 x.node y.node = 0 then (if cmp3 x.service y.service = 0 then (if cmp3 x.time y.time = 0 then (if cmp3 x.seq y.seq = 0 then 0 else cmp3 x.seq y.seq) else cmp3 x.time y.time) else cmp3 x.service y.service) else cmp3 x.node y.node := rfl
  rcases cmp3_cases x.node y.node with ⟨h1, c1⟩ | ⟨h1, c1⟩ | ⟨h1, c1⟩
  · exact .inl ⟨.inl h1, by rw [e, if_neg (by rw [c1]; decide), c1]⟩
  · rw [if_pos c1] at e
    rcases cmp3_cases x.service y.service with ⟨h2, c2⟩ | ⟨h2, c2⟩ | ⟨h2, c2⟩
    · exact .inl ⟨.inr ⟨h1, .inl h2⟩, by rw [e, if_neg (by rw [c2]; decide), c2]⟩
    · rw [if_pos c2] at e
      rcases cmp3_cases x.time y.time with ⟨h3, c3⟩ | ⟨h3, c3⟩ | ⟨h3, c3⟩
      · exact .inl ⟨.inr ⟨h1, .inr ⟨h2, .inl h3⟩⟩, by rw [e, if_neg (by rw [c3]; decide), c3]⟩
      · rw [if_pos c3] at e
        rcases cmp3_cases x.seq y.seq with ⟨h4, c4⟩ | ⟨h4, c4⟩ | ⟨h4, c4⟩
        · exact .inl ⟨.inr ⟨h1, .inr ⟨h2, .inr ⟨h3, h4⟩⟩⟩, by rw [e, if_neg (by rw [c4]; decide), c4]⟩
        · exact .inr (.inl ⟨⟨h1, h2, h3, h4⟩, by rw [e, if_pos c4]⟩)
        · exact .inr (.inr ⟨.inr ⟨h1.symm, .inr ⟨h2.symm, .inr ⟨h3.symm, h4⟩⟩⟩, by rw [e, if_neg (by rw [c4]; decide), c4]⟩)
      · exact .inr (.inr ⟨.inr ⟨h1.symm, .inr ⟨h2.symm, .inl h3⟩⟩, by rw [e, if_neg (by rw [c3]; decide), c3]⟩)
    · exact .inr (.inr ⟨.inr ⟨h1.symm, .inl h2⟩, by rw [e, if_neg (by rw [c2]; decide), c2]⟩)
  · exact .inr (.inr ⟨.inl h1, by rw [e, if_neg (by rw [c1]; decide), c1]⟩)
theorem nmCmp_neg (x y : Nm) : nmCmp x y = -nmCmp y x := by
  have h1 := nmCmp_cases x y
  have h2 := nmCmp_cases y x
  unfold lexB at h1 h2
  omega
theorem nmCmp_zero (x y : Nm) : nmCmp x y = 0 ↔ x = y := by
  have h1 := nmCmp_cases x y
  unfold lexB at h1
  constructor
  · intro h
    exact Nm.ext (by omega) (by omega) (by omega) (by omega)
  · rintro rfl
    omega
theorem nmCmp_b (x y : Nm) : -1 ≤ nmCmp x y ∧ nmCmp x y ≤ 1 := by
  have h1 := nmCmp_cases x y
  omega
theorem nmCmp_trans {x y z : Nm} (h1 : nmCmp x y < 0) (h2 : nmCmp y z < 0) : nmCmp x z < 0 := by
  have c1 := nmCmp_cases x y
  have c2 := nmCmp_cases y z
  have c3 := nmCmp_cases x z
  unfold lexB at c1 c2 c3
  omega
end Go.Proofs.YtpkonagjnfphkaaGreatDoor

namespace Go.Proofs.YtpkonagjnfphkaaGreatDoor
open Go.RowKit Trc Cb
set_option linter.unusedSimpArgs false
set_option linter.unusedVariables false
theorem readU_ep0 : readU (epI 0 0) = [1, 0] := by decide
theorem readU_ep (n m : Nat) (h : n ≠ 0) : readU (epI n m) = [2, (n : Int), (m : Int)] := by
  unfold epI
  rw [if_neg h]
  simp [readU, usK, usT, It.k, It.l, It.n]
theorem readU_nm (n m t s : Nat) (h : n ≠ 0) : readU (nmI n m t s) = [(t : Int), (s : Int), 2, (n : Int), (m : Int)] := by
  unfold nmI epI
  rw [if_neg h]
  simp [readU, usK, usT, It.k, It.l, It.n]
theorem of_epI (n m : Nat) (hn : n < 4294967296) (hm : m < 4294967296) (hc : Dig.chkP n m = 0) : ofV (epI n m) = .tuple #[epV n m, .int .i64 0] := by
  have h0 : n = 0 → m = 0 := fun h => by
    unfold Dig.chkP at hc
    split at hc
    · cases hc
    · rename_i h2; exact Decidable.byContradiction fun h3 => h2 ⟨h, h3⟩
  by_cases h : n = 0
  · obtain rfl := h
    obtain rfl := h0 rfl
    have ha : ofA (epI 0 0) = 0 := by unfold ofA; rw [readU_ep0]; rfl
    have hb : ofB (epI 0 0) = 0 := by unfold ofB; rw [readU_ep0]; rfl
    have hk : okE (epI 0 0) = true := by unfold okE; rw [ha, hb, sameB_refl, hc]; rfl
    unfold ofV
    rw [hk, ha, hb]
    rfl
  · have ha : ofA (epI n m) = n := by unfold ofA; rw [readU_ep n m h]; simp [g5]; omega
    have hb : ofB (epI n m) = m := by unfold ofB; rw [readU_ep n m h]; simp [g5]; omega
    have hk : okE (epI n m) = true := by unfold okE; rw [ha, hb, sameB_refl, hc]; rfl
    unfold ofV
    rw [hk, ha, hb]
    rfl
theorem nof_nmI (n m t s : Nat) (hn : n < 4294967296) (hm : m < 4294967296) (hs : s < 4294967296) (hc : Dig.chkN n t = 0) : nofV (nmI n m t s) = .tuple #[nmW n m t s, .int .i64 0] := by
  have h : n ≠ 0 := fun h => by
    unfold Dig.chkN at hc
    rw [if_pos (.inl h)] at hc
    cases hc
  have ha : naN (nmI n m t s) = n := by unfold naN; rw [readU_nm n m t s h]; simp [g5]; omega
  have hb : naM (nmI n m t s) = m := by unfold naM; rw [readU_nm n m t s h]; simp [g5]; omega
  have hct : naT (nmI n m t s) = t := by unfold naT; rw [readU_nm n m t s h]; simp [g5]
  have hd : naS (nmI n m t s) = s := by unfold naS; rw [readU_nm n m t s h]; simp [g5]; omega
  have hk : okN (nmI n m t s) = true := by unfold okN; rw [ha, hb, hct, hd, sameB_refl, hc]; rfl
  unfold nofV
  rw [hk, ha, hb, hct, hd]
  rfl
theorem parse_mk (n m : Nat) (hn : n < 4294967296) (hm : m < 4294967296) (hc : Dig.chkP n m = 0) : Dig.parseP (Dig.toldP n m) = ((n, m), 0) := by
  have h0 : n = 0 → m = 0 := fun h => by
    unfold Dig.chkP at hc
    split at hc
    · cases hc
    · rename_i h2; exact Decidable.byContradiction fun h3 => h2 ⟨h, h3⟩
  have hl : ¬ 100 < (Dig.toldP n m).length := by
    have := Dig.nameT_len n m 0 0 hn hm (by decide) (by decide)
    unfold Dig.nameT at this
    simp only [List.length_append] at this
    omega
  unfold Dig.parseP
  rw [if_neg hl]
  by_cases h : n = 0
  · obtain rfl := h
    obtain rfl := h0 rfl
    rw [Dig.endP_none]
  · rw [Dig.endP_mk n m h hn hm]
end Go.Proofs.YtpkonagjnfphkaaGreatDoor

namespace Go.Proofs.YtpkonagjnfphkaaGreatDoor
open Go.RowKit Cb
set_option linter.unusedSimpArgs false
set_option linter.unusedVariables false
/-- A list of items of these kinds. -/
def shB (x : It) (K : List Int) : Bool := (x.k == 4) && (x.l.map It.k == K)
set_option maxHeartbeats 1000000 in
set_option maxRecDepth 100000 in
theorem shapeR_c (S : Nat → Prop) (x : It) (K : List Int) (r : Rw) (u : Value) (n : Nat) (w : World) (hx : ItR S w x r) (hu : Sl w 1 u n (K.map (.int .i64))) (hcx : cnt x ≤ 1000000) : Calls Tryz.prog 68 #[rwV r, u] w (Ret (.bool (shB x K)) w) := by
  obtain ⟨k1, n1, ba1, bn1, bc1, s1, la1, ln1, lc1, rfl⟩ := hx.shape
  obtain ⟨rows, p⟩ := hx.parts
  have hK : K.length = n := by have := hu.1; simpa using this
  have hll : ln1 = x.l.length := by obtain ⟨a, c, h⟩ := p.l.1.len; simp at h; omega
  have hrl : rows.length = x.l.length := p.each.len
  have hkk : x.k = k1 := p.k.symm
  obtain ⟨R, hR⟩ : ∃ R, R = shB x K := ⟨_, rfl⟩
  rw [← hR]
  have hb0 := below_alloc w (.cells (rwC ⟨k1, n1, .slice ba1 bn1 bc1, s1, .slice la1 ln1 lc1⟩).toArray 62)
  have X0 := RowAt.new w (rwC ⟨k1, n1, .slice ba1 bn1 bc1, s1, .slice la1 ln1 lc1⟩).toArray 62
  have hcl : x.l.length ≤ 1000000 := by have := cntL_len x.l; cases x; simp only [cnt, It.l] at *; omega
  by_cases h4 : k1 = 4
  · subst h4
    by_cases hn : ln1 = n
    · subst hn
      have hRe : R = (x.l.map It.k == K) := by rw [hR]; unfold shB; rw [hkk]; simp
      have hu2 : Sl w 1 u ln1 (K.flatMap fun y => [.int .i64 y]) := by rw [List.map_eq_flatMap] at hu; exact hu
      obtain ⟨a, c, rfl⟩ := hu.len
      have hl2 : Sl w 5 (.slice la1 ln1 lc1) ln1 (rows.flatMap rwC) := by have := p.l.1; rw [← hll] at this; exact this
      have x4 := X0.cell (i := 4) rfl
      have HRE := Lib.hid hRe
      have HU := Lib.hid hu2
      have HL := Lib.hid hl2
      have HE := Lib.hid p.each
      have HLL := Lib.hid hll
      have HRL := Lib.hid hrl
      have HK := Lib.hid hK
      have HB0 := Lib.hid hb0
      have HX0 := Lib.hid X0
      have hln : (ln1 : Nat) ≤ 1000000 := by omega
      clear hR hRe p hx hu hu2 hl2 hll hrl hkk hK hcl hb0 X0 hcx
      go_enter Tryz.func68, Tryz.ntmps68
      go_wp2
      go_loopw [5] (fun i wr => ∃ j : Nat, j ≤ ln1 ∧ i = .int .i64 j ∧ RowKit.Hid ((x.l.map It.k).take j = K.take j) ∧ Below (w.alloc (.cells (rwC ⟨4, n1, .slice ba1 bn1 bc1, s1, .slice la1 ln1 lc1⟩).toArray 62)).heap.size (w.alloc (.cells (rwC ⟨4, n1, .slice ba1 bn1 bc1, s1, .slice la1 ln1 lc1⟩).toArray 62)) wr) (fun i _ => ln1 - (intOf i).toNat)
      case atStart => exact ⟨0, Nat.zero_le _, rfl, Lib.hid (by simp), Below.refl _ _⟩
      case round =>
        obtain ⟨j, hj, rfl, Hsame, hB⟩ := hrel
        have HB := Lib.hid (below_up HB0.out hB)
        by_cases hlt : j < ln1
        · have hl' : j < x.l.length := by rw [← HLL.out]; exact hlt
          have hr' : j < rows.length := by rw [HRL.out]; exact hl'
          have hk' : j < K.length := by rw [HK.out]; exact hlt
          obtain ⟨b, off, rfl, hr⟩ := (HL.out.up HB.out).rec_at (cells := rwC) (sz := 5) (fun _ => rfl) hlt hr'
          obtain ⟨b2, off2, rfl, hr2⟩ := (HU.out.up HB.out).rec_at (cells := fun y : Int => [.int .i64 y]) (sz := 1) (fun _ => rfl) hlt hk'
          have c1 := hr 0 _ rfl
          have c2 := hr2 0 _ rfl
          have x5 := (HX0.out.below hB).cell (i := 4) rfl
          obtain ⟨rows2, q⟩ := (HE.out.get hl' hr').parts
          have hkq := q.k
          have hs1 : (x.l.map It.k).take (j + 1) = (x.l.map It.k).take j ++ [x.l[j].k] := by rw [List.take_succ_eq_append_getElem (by rw [List.length_map]; exact hl')]; simp
          have hs2 : K.take (j + 1) = K.take j ++ [K[j]] := List.take_succ_eq_append_getElem hk'
          have Hs := Lib.hid (fun h : x.l[j].k = K[j] => show (x.l.map It.k).take (j + 1) = K.take (j + 1) by rw [hs1, hs2, h, Hsame.out])
          have Hno := Lib.hid (fun h : ¬ x.l[j].k = K[j] => show R = false by
            rw [HRE.out, beq_eq_false_iff_ne]
            intro e
            refine h ?_
            have := congrArg (fun l => l[j]?) e
            simpa [hl', hk'] using this)
          have hlti : (j : Int) < (ln1 : Int) := by omega
          have hB2 := hB
          clear hs1 hs2 q hr hr2 hB x4
          simp only [Nat.mul_one, Nat.add_zero] at c1 c2
          rw [hkq] at c1
          generalize x.l[j].k = kk at *
          generalize K[j] = KK at *
          by_cases he : kk = KK
          · subst he
            have HS := Lib.hid (Hs.out rfl)
            clear Hs Hno
            go_wp2
            refine wp_region_pt (fun _ => False) (.q 0 (.q 1 (.q 2 (.q 3 (.q 4 (.q 5 (.q 6 (.q 7 (.q 8 (.q 9 (.q 10 .done))))))))))) (by kernel_rfl) (by kernel_rfl) (by kernel_rfl) (by decide) (fun _ _ d _ _ h => by cases d <;> exact h) (fun Wd hBd => ?_)
            try simp only [Act.put, List.getElem_toArray, List.getElem_cons_zero, List.getElem_cons_succ, List.setIfInBounds_toArray, List.set_cons_zero, List.set_cons_succ]
            have d1 := cell_up hBd c1
            have d2 := cell_up hBd c2
            have d5 := cell_up hBd x5
            refine pt_q (v := ?_) rfl (by rfl) ?_ ?_
            rotate_left
            · intro w' hBw'
              first | (go_simp; done) | (go_simp; with_reducible rfl)
            try simp only [Act.put, List.getElem_toArray, List.getElem_cons_zero, List.getElem_cons_succ, List.setIfInBounds_toArray, List.set_cons_zero, List.set_cons_succ]
            refine pt_q (v := ?_) rfl (by rfl) ?_ ?_
            rotate_left
            · intro w' hBw'
              have qL0 := hBw'.cell d5 (fun e => e)
              first | (go_simp; done) | (go_simp; with_reducible rfl)
            iterate 3
              try simp only [Act.put, List.getElem_toArray, List.getElem_cons_zero, List.getElem_cons_succ, List.setIfInBounds_toArray, List.set_cons_zero, List.set_cons_succ]
              refine pt_q (v := ?_) rfl (by rfl) ?_ ?_
              rotate_left
              · intro w' hBw'
                first | (go_simp; done) | (go_simp; with_reducible rfl)
            try simp only [Act.put, List.getElem_toArray, List.getElem_cons_zero, List.getElem_cons_succ, List.setIfInBounds_toArray, List.set_cons_zero, List.set_cons_succ]
            refine pt_q (v := ?_) rfl (by rfl) ?_ ?_
            rotate_left
            · intro w' hBw'
              have qL0 := hBw'.cell d1 (fun e => e)
              first | (go_simp; done) | (go_simp; with_reducible rfl)
            iterate 3
              try simp only [Act.put, List.getElem_toArray, List.getElem_cons_zero, List.getElem_cons_succ, List.setIfInBounds_toArray, List.set_cons_zero, List.set_cons_succ]
              refine pt_q (v := ?_) rfl (by rfl) ?_ ?_
              rotate_left
              · intro w' hBw'
                first | (go_simp; done) | (go_simp; with_reducible rfl)
            try simp only [Act.put, List.getElem_toArray, List.getElem_cons_zero, List.getElem_cons_succ, List.setIfInBounds_toArray, List.set_cons_zero, List.set_cons_succ]
            refine pt_q (v := ?_) rfl (by rfl) ?_ ?_
            rotate_left
            · intro w' hBw'
              have qL0 := hBw'.cell d2 (fun e => e)
              first | (go_simp; done) | (go_simp; with_reducible rfl)
            try simp only [Act.put, List.getElem_toArray, List.getElem_cons_zero, List.getElem_cons_succ, List.setIfInBounds_toArray, List.set_cons_zero, List.set_cons_succ]
            refine pt_q (v := ?_) rfl (by rfl) ?_ ?_
            rotate_left
            · intro w' hBw'
              first | (go_simp; done) | (go_simp; with_reducible rfl)
            try simp only [Act.put, List.getElem_toArray, List.getElem_cons_zero, List.getElem_cons_succ, List.setIfInBounds_toArray, List.set_cons_zero, List.set_cons_succ]
            refine pt_done ?_
            go_wp2
            have HB2 := Lib.hid (hB2.trans (hBd.mono hB2.size))
            go_roundw
            case rel => exact ⟨j + 1, by omega, by go_num, HS, HB2.out⟩
            case measure => simp [intOf]; omega
          · have HRF := Lib.hid (Hno.out he)
            clear Hs Hno
            go_wp2
            refine wp_region_pt (fun _ => False) (.q 0 (.q 1 (.q 2 (.q 3 (.q 4 (.q 5 (.q 6 (.q 7 (.q 8 (.q 9 (.q 10 .done))))))))))) (by kernel_rfl) (by kernel_rfl) (by kernel_rfl) (by decide) (fun _ _ d _ _ h => by cases d <;> exact h) (fun Wd hBd => ?_)
            try simp only [Act.put, List.getElem_toArray, List.getElem_cons_zero, List.getElem_cons_succ, List.setIfInBounds_toArray, List.set_cons_zero, List.set_cons_succ]
            have d1 := cell_up hBd c1
            have d2 := cell_up hBd c2
            have d5 := cell_up hBd x5
            refine pt_q (v := ?_) rfl (by rfl) ?_ ?_
            rotate_left
            · intro w' hBw'
              first | (go_simp; done) | (go_simp; with_reducible rfl)
            try simp only [Act.put, List.getElem_toArray, List.getElem_cons_zero, List.getElem_cons_succ, List.setIfInBounds_toArray, List.set_cons_zero, List.set_cons_succ]
            refine pt_q (v := ?_) rfl (by rfl) ?_ ?_
            rotate_left
            · intro w' hBw'
              have qL0 := hBw'.cell d5 (fun e => e)
              first | (go_simp; done) | (go_simp; with_reducible rfl)
            iterate 3
              try simp only [Act.put, List.getElem_toArray, List.getElem_cons_zero, List.getElem_cons_succ, List.setIfInBounds_toArray, List.set_cons_zero, List.set_cons_succ]
              refine pt_q (v := ?_) rfl (by rfl) ?_ ?_
              rotate_left
              · intro w' hBw'
                first | (go_simp; done) | (go_simp; with_reducible rfl)
            try simp only [Act.put, List.getElem_toArray, List.getElem_cons_zero, List.getElem_cons_succ, List.setIfInBounds_toArray, List.set_cons_zero, List.set_cons_succ]
            refine pt_q (v := ?_) rfl (by rfl) ?_ ?_
            rotate_left
            · intro w' hBw'
              have qL0 := hBw'.cell d1 (fun e => e)
              first | (go_simp; done) | (go_simp; with_reducible rfl)
            iterate 3
              try simp only [Act.put, List.getElem_toArray, List.getElem_cons_zero, List.getElem_cons_succ, List.setIfInBounds_toArray, List.set_cons_zero, List.set_cons_succ]
              refine pt_q (v := ?_) rfl (by rfl) ?_ ?_
              rotate_left
              · intro w' hBw'
                first | (go_simp; done) | (go_simp; with_reducible rfl)
            try simp only [Act.put, List.getElem_toArray, List.getElem_cons_zero, List.getElem_cons_succ, List.setIfInBounds_toArray, List.set_cons_zero, List.set_cons_succ]
            refine pt_q (v := ?_) rfl (by rfl) ?_ ?_
            rotate_left
            · intro w' hBw'
              have qL0 := hBw'.cell d2 (fun e => e)
              first | (go_simp; done) | (go_simp; with_reducible rfl)
            try simp only [Act.put, List.getElem_toArray, List.getElem_cons_zero, List.getElem_cons_succ, List.setIfInBounds_toArray, List.set_cons_zero, List.set_cons_succ]
            refine pt_q (v := ?_) rfl (by rfl) ?_ ?_
            rotate_left
            · intro w' hBw'
              first | (go_simp; done) | (go_simp; with_reducible rfl)
            try simp only [Act.put, List.getElem_toArray, List.getElem_cons_zero, List.getElem_cons_succ, List.setIfInBounds_toArray, List.set_cons_zero, List.set_cons_succ]
            refine pt_done ?_
            go_wp2
            go_ret
            exact ⟨retB HRF.out.symm, below_up HB.out hBd⟩
        · obtain rfl : j = ln1 := by omega
          have HRT : R = true := by
            rw [HRE.out, beq_iff_eq]
            have := Hsame.out
            rwa [List.take_of_length_le (by rw [List.length_map, ← HLL.out]; exact Nat.le_refl _), List.take_of_length_le (by rw [HK.out]; exact Nat.le_refl _)] at this
          go_wp2
          go_ret
          exact ⟨retB HRT.symm, HB.out⟩
    · have hf : R = false := by
        rw [hR]; unfold shB
        rw [hkk]
        have : ¬ x.l.map It.k = K := fun e => hn (by rw [← hK, ← e, List.length_map, hll])
        simp [this]
      obtain ⟨a, c, rfl⟩ := hu.len
      have hne : ¬ ((ln1 : Int) = (n : Int)) := by omega
      have x4 := X0.cell (i := 4) rfl
      rw [hf]
      clear hR hf p hx hu hll hrl hkk hK hcl
      go_enter Tryz.func68, Tryz.ntmps68
      go_wp2
      go_ret
      exact ⟨rfl, hb0⟩
  · have hf : R = false := by
      rw [hR]; unfold shB
      rw [hkk]; simp [h4]
    rw [hf]
    clear hR hf p hx hll hrl hkk hK hcl
    obtain ⟨a, c, rfl⟩ := hu.len
    go_enter Tryz.func68, Tryz.ntmps68
    go_wp2
    go_ret
    exact ⟨rfl, hb0⟩
end Go.Proofs.YtpkonagjnfphkaaGreatDoor

namespace Go.Proofs.YtpkonagjnfphkaaGreatDoor
open Go.RowKit Cb
set_option linter.unusedSimpArgs false
set_option linter.unusedVariables false
theorem ItR.shape2 {S : Nat → Prop} {w : World} {x : It} {r : Rw} (h : ItR S w x r) : ∃ k n ba bc s la lc, r = ⟨k, n, .slice ba x.b.length bc, s, .slice la x.l.length lc⟩ := by
  obtain ⟨rows, p⟩ := h.parts
  obtain ⟨a, c, hb⟩ := p.b.cell
  obtain ⟨a2, c2, hl⟩ := p.l.cell
  obtain ⟨k, n, b, s, l⟩ := r
  subst hb; subst hl
  exact ⟨_, _, _, _, _, _, _, rfl⟩
theorem enters_sameR : Enters Tryz.prog 111 := enters_of Tryz.func111 (by kernel_rfl) rfl
abbrev SameRC (S : Nat → Prop) (x : It) : Prop := ∀ (y : It) (r t : Rw) (w : World), ItR S w x r → ItR S w y t → cnt x ≤ 1000000 → cnt y ≤ 1000000 → Calls Tryz.prog 111 #[rwV r, rwV t] w (Ret (.bool (sameB x y)) w)
set_option maxHeartbeats 2000000 in
set_option maxRecDepth 100000 in
theorem sameR_c (S : Nat → Prop) (x : It) : SameRC S x := by
  induction x using It.ind with
  | h x ih =>
    intro y r t w hr ht hcx hcy
    obtain ⟨k1, n1, ba1, bc1, s1, la1, lc1, rfl⟩ := hr.shape2
    obtain ⟨k2, n2, ba2, bc2, s2, la2, lc2, rfl⟩ := ht.shape2
    obtain ⟨rows, p⟩ := hr.parts
    obtain ⟨rows2, q⟩ := ht.parts
    have hB2 : Below w.heap.size w ((w.alloc (.cells (rwC ⟨k1, n1, .slice ba1 x.b.length bc1, s1, .slice la1 x.l.length lc1⟩).toArray 62)).alloc (.cells (rwC ⟨k2, n2, .slice ba2 y.b.length bc2, s2, .slice la2 y.l.length lc2⟩).toArray 62)) := (below_alloc w _).alloc (by simp) _
    have e1 := rangeAt_up (below_alloc (w.alloc (.cells (rwC ⟨k1, n1, .slice ba1 x.b.length bc1, s1, .slice la1 x.l.length lc1⟩).toArray 62)) (.cells (rwC ⟨k2, n2, .slice ba2 y.b.length bc2, s2, .slice la2 y.l.length lc2⟩).toArray 62)) (rangeAt_new w (rwC ⟨k1, n1, .slice ba1 x.b.length bc1, s1, .slice la1 x.l.length lc1⟩) 62 _)
    have e2 := rangeAt_new (w.alloc (.cells (rwC ⟨k1, n1, .slice ba1 x.b.length bc1, s1, .slice la1 x.l.length lc1⟩).toArray 62)) (rwC ⟨k2, n2, .slice ba2 y.b.length bc2, s2, .slice la2 y.l.length lc2⟩) 62 (0, 0)
    simp only [World.alloc, Array.size_push] at e2
    have hv1 := run_str (P := Tryz.prog) (w := ((w.alloc (.cells (rwC ⟨k1, n1, .slice ba1 x.b.length bc1, s1, .slice la1 x.l.length lc1⟩).toArray 62)).alloc (.cells (rwC ⟨k2, n2, .slice ba2 y.b.length bc2, s2, .slice la2 y.l.length lc2⟩).toArray 62))) (src := 48) (dst := 9) Tryz.underlying48 Tryz.underlying5 Tryz.underlying9 (p.b.up hB2).1
    have hv2 := run_str (P := Tryz.prog) (w := ((w.alloc (.cells (rwC ⟨k1, n1, .slice ba1 x.b.length bc1, s1, .slice la1 x.l.length lc1⟩).toArray 62)).alloc (.cells (rwC ⟨k2, n2, .slice ba2 y.b.length bc2, s2, .slice la2 y.l.length lc2⟩).toArray 62))) (src := 48) (dst := 9) Tryz.underlying48 Tryz.underlying5 Tryz.underlying9 (q.b.up hB2).1
    have hk1 := p.k; have hk2 := q.k; have hn1 := p.n; have hn2 := q.n; have hs1 := p.s; have hs2 := q.s
    simp only at hk1 hk2 hn1 hn2 hs1 hs2 hv1 hv2
    obtain ⟨R, hR⟩ : ∃ R, R = sameB x y := ⟨_, rfl⟩
    rw [← hR]
    have hxy := sameB_iff x y
    rw [← hR] at hxy
    have hdx : R = true ↔ (k1 = k2 ∧ n1 = n2 ∧ x.b = y.b ∧ s1 = s2 ∧ x.l = y.l) := by
      rw [hxy, hk1, hk2, hn1, hn2, hs1, hs2]
      cases x; cases y
      simp only [It.mk.injEq, It.k, It.n, It.b, It.s, It.l]
    clear hxy hR
    have hbb : (ByteArray.mk x.b.toArray).toList = (ByteArray.mk y.b.toArray).toList ↔ x.b = y.b := by
      rw [ByteArray.toList_eq, ByteArray.toList_eq]
    have hss : s1.toList = s2.toList ↔ s1 = s2 := by
      rw [ByteArray.toList_eq, ByteArray.toList_eq]
      exact ⟨fun h => ByteArray.ext (Array.toList_inj.1 h), fun h => by rw [h]⟩
    have hrl1 := p.each.len
    have hrl2 := q.each.len
    have hll1 := p.l.1.n_max
    have hll2 := q.l.1.n_max
    have hu := p.l; have hv := q.l; have hea := p.each; have heb := q.each
    simp only at hu hv
    have hcx' : ∀ z ∈ x.l, cnt z ≤ 1000000 := fun z hz => by have := cnt_mem hz; omega
    have hcy' : ∀ z ∈ y.l, cnt z ≤ 1000000 := fun z hz => by have := cnt_mem hz; omega
    clear p q hr ht hk1 hk2 hn1 hn2 hs1 hs2 hcx hcy
    generalize (ByteArray.mk x.b.toArray) = u1 at *
    generalize (ByteArray.mk y.b.toArray) = u2 at *
    generalize hm1 : x.l.length = m1 at *
    generalize hm2 : y.l.length = m2 at *
    have Hdx := Lib.hid hdx
    have Hbb := Lib.hid hbb
    have Hss := Lib.hid hss
    clear hdx hbb hss
    by_cases hne : k1 = k2
    · subst hne
      by_cases hne : n1 = n2
      · subst hne
        by_cases hne : u1.toList = u2.toList
        · have hxb := Lib.hid (Hbb.out.1 hne)
          by_cases hne : s1.toList = s2.toList
          · have hst := Hss.out.1 hne
            clear Hss
            subst hst
            by_cases hne : m1 = m2
            · subst hne
              have Hall := Lib.hid (fun h : x.l = y.l => Hdx.out.2 ⟨rfl, rfl, hxb.out, rfl, h⟩)
              go_enter Tryz.func111, Tryz.ntmps111
              go_wp2
              go_loopw [5] (fun i wr => ∃ j : Nat, j ≤ m1 ∧ i = .int .i64 j ∧ RowKit.Hid (x.l.take j = y.l.take j) ∧ Below ((w.alloc (.cells (rwC ⟨k1, n1, .slice ba1 x.b.length bc1, s1, .slice la1 m1 lc1⟩).toArray 62)).alloc (.cells (rwC ⟨k1, n1, .slice ba2 y.b.length bc2, s1, .slice la2 m1 lc2⟩).toArray 62)).heap.size ((w.alloc (.cells (rwC ⟨k1, n1, .slice ba1 x.b.length bc1, s1, .slice la1 m1 lc1⟩).toArray 62)).alloc (.cells (rwC ⟨k1, n1, .slice ba2 y.b.length bc2, s1, .slice la2 m1 lc2⟩).toArray 62)) wr) (fun i _ => m1 - (intOf i).toNat)
              case atStart => exact ⟨0, Nat.zero_le _, rfl, Lib.hid rfl, Below.refl _ _⟩
              case round =>
                obtain ⟨j, hj, rfl, Hsame, hB⟩ := hrel
                have HB := Lib.hid (below_up hB2 hB)
                have hc1 : wr.cell? ⟨w.heap.size, 0 + 4, none⟩ = some (.slice la1 m1 lc1) := rangeAt_up hB e1 4 _ rfl
                have hc2 : wr.cell? ⟨w.heap.size + 1, 0 + 4, none⟩ = some (.slice la2 m1 lc2) := rangeAt_up hB e2 4 _ rfl
                by_cases hlt : j < m1
                · have hl' : j < x.l.length := by omega
                  have hm' : j < y.l.length := by omega
                  have hr' : j < rows.length := by omega
                  have hq' : j < rows2.length := by omega
                  obtain ⟨b, off, rfl, hr⟩ := (hu.1.up HB.out).rec_at (cells := rwC) (sz := 5) (fun _ => rfl) hlt hr'
                  obtain ⟨b2, off2, rfl, hr2⟩ := (hv.1.up HB.out).rec_at (cells := rwC) (sz := 5) (fun _ => rfl) hlt hq'
                  have hs1 : x.l.take (j + 1) = x.l.take j ++ [x.l[j]] := List.take_succ_eq_append_getElem hl'
                  have hs2 : y.l.take (j + 1) = y.l.take j ++ [y.l[j]] := List.take_succ_eq_append_getElem hm'
                  have Hs := Lib.hid (fun h : x.l[j] = y.l[j] => show x.l.take (j + 1) = y.l.take (j + 1) by rw [hs1, hs2, h, Hsame.out])
                  have Hno := Lib.hid (fun h : ¬ x.l[j] = y.l[j] => show R = false by
                    rw [Bool.eq_false_iff]
                    intro e
                    have := (Hdx.out.1 e).2.2.2.2
                    exact h (by simp only [this]))
                  have hcl := fun (w' : World) (hb : Below w.heap.size w w') => ih x.l[j] (List.getElem_mem hl') y.l[j] rows[j] rows2[j] w' ((hea.get hl' hr').up hb) ((heb.get hm' hq').up hb) (hcx' _ (List.getElem_mem hl')) (hcy' _ (List.getElem_mem hm'))
                  have hxe := sameB_iff x.l[j] y.l[j]
                  have hsx := (hea.get hl' hr').shape
                  have hsy := (heb.get hm' hq').shape
                  clear hs1 hs2
                  generalize sameB x.l[j] y.l[j] = z at hcl hxe
                  generalize rows[j] = rx at *
                  generalize rows2[j] = ry at *
                  obtain ⟨ka, na, baa, bna, bca, sa, laa, lna, lca, rfl⟩ := hsx
                  obtain ⟨kb, nb, bab, bnb, bcb, sb, lab, lnb, lcb, rfl⟩ := hsy
                  generalize x.l[j] = xx at *
                  generalize y.l[j] = yy at *
                  go_wp2
                  refine wp_region_pi [(0, false), (1, false), (2, false), (3, false), (4, false), (5, false), (6, false), (7, false), (8, false), (9, false), (10, true), (11, false)] (by kernel_rfl) (by kernel_rfl) (by kernel_rfl) rfl (fun _ _ d _ _ h => by cases d <;> exact h) (fun Wd hBd => ?_)
                  try simp only [Act.put, List.getElem_toArray, List.getElem_cons_zero, List.getElem_cons_succ, List.setIfInBounds_toArray, List.set_cons_zero, List.set_cons_succ]
                  have c1 : ∀ w', Below Wd.heap.size Wd w' → w'.cell? ⟨w.heap.size, 0 + 4, none⟩ = some (.slice (some ⟨b, off, none⟩) m1 lc1) := fun w' h => cell_up h (cell_up hBd hc1)
                  have c2 : ∀ w', Below Wd.heap.size Wd w' → w'.cell? ⟨w.heap.size + 1, 0 + 4, none⟩ = some (.slice (some ⟨b2, off2, none⟩) m1 lc2) := fun w' h => cell_up h (cell_up hBd hc2)
                  have hrd := rangeAt_up hBd hr
                  have hrd2 := rangeAt_up hBd hr2
                  iterate 4
                    refine pi_q (v := ?_) rfl (by rfl) ?_ ?_
                    rotate_left
                    · intro w' hBw'
                      first | (go_simp; done) | (go_simp; with_reducible rfl)
                    try simp only [Act.put, List.getElem_toArray, List.getElem_cons_zero, List.getElem_cons_succ, List.setIfInBounds_toArray, List.set_cons_zero, List.set_cons_succ]
                  refine pi_load rfl (by rfl) 62 (.tmp 53) rfl b (off + j * 5) rfl (rwC ⟨ka, na, .slice baa bna bca, sa, .slice laa lna lca⟩) _ hrd Tryz.underlying62 rfl (by kernel_rfl) ?_
                  iterate 4
                    try simp only [Act.put, List.getElem_toArray, List.getElem_cons_zero, List.getElem_cons_succ, List.setIfInBounds_toArray, List.set_cons_zero, List.set_cons_succ]
                    refine pi_q (v := ?_) rfl (by rfl) ?_ ?_
                    rotate_left
                    · intro w' hBw'
                      first | (go_simp; done) | (go_simp; with_reducible rfl)
                  try simp only [Act.put, List.getElem_toArray, List.getElem_cons_zero, List.getElem_cons_succ, List.setIfInBounds_toArray, List.set_cons_zero, List.set_cons_succ]
                  refine pi_load rfl (by rfl) 62 (.tmp 58) rfl b2 (off2 + j * 5) rfl (rwC ⟨kb, nb, .slice bab bnb bcb, sb, .slice lab lnb lcb⟩) _ hrd2 Tryz.underlying62 rfl (by kernel_rfl) ?_
                  try simp only [Act.put, List.getElem_toArray, List.getElem_cons_zero, List.getElem_cons_succ, List.setIfInBounds_toArray, List.set_cons_zero, List.set_cons_succ]
                  refine pi_call rfl (by rfl) (hcl Wd (below_up HB.out hBd)) enters_sameR (by rfl) (by kernel_rfl) ?_
                  rintro en wN ⟨rfl, hb⟩
                  refine ⟨_, rfl, hb, ?_⟩
                  try simp only [Act.put, List.getElem_toArray, List.getElem_cons_zero, List.getElem_cons_succ, List.setIfInBounds_toArray, List.set_cons_zero, List.set_cons_succ]
                  refine pi_q (v := ?_) rfl (by rfl) ?_ ?_
                  rotate_left
                  · intro w' hBw'
                    first | (go_simp; done) | (go_simp; with_reducible rfl)
                  try simp only [Act.put, List.getElem_toArray, List.getElem_cons_zero, List.getElem_cons_succ, List.setIfInBounds_toArray, List.set_cons_zero, List.set_cons_succ]
                  refine pi_nil ?_
                  cases z
                  · have HRf := Lib.hid (Hno.out (fun h => by simpa using hxe.2 h))
                    clear hxe Hs Hno
                    go_wp2
                    go_ret
                    exact ⟨retB HRf.out.symm, below_up (below_up HB.out hBd) hb⟩
                  · have Hst := Lib.hid (Hs.out (hxe.1 rfl))
                    clear hxe Hs Hno
                    go_wp2
                    go_roundw
                    case rel => exact ⟨j + 1, by omega, by go_num, Hst, below_up (below_up hB hBd) hb⟩
                    case measure => simp [intOf]; omega
                · obtain rfl : j = m1 := by omega
                  have HRt : R = true := by
                    have := Hsame.out
                    rw [List.take_of_length_le (by omega), List.take_of_length_le (by omega)] at this
                    exact Hall.out this
                  go_wp2
                  go_ret
                  exact ⟨retB HRt.symm, HB.out⟩
            · have hnm : ¬ ((m1 : Int) = (m2 : Int)) := by omega
              have HR := Lib.hid (show R = false by rw [Bool.eq_false_iff]; intro e; exact hne (by rw [← hm1, ← hm2, (Hdx.out.1 e).2.2.2.2]))
              go_enter Tryz.func111, Tryz.ntmps111
              go_wp2
              go_ret
              exact ⟨retB HR.out.symm, hB2⟩
          · have HR := Lib.hid (show R = false by rw [Bool.eq_false_iff]; intro e; exact hne (Hss.out.2 (Hdx.out.1 e).2.2.2.1))
            go_enter Tryz.func111, Tryz.ntmps111
            go_wp2
            go_ret
            exact ⟨retB HR.out.symm, hB2⟩
        · have HR := Lib.hid (show R = false by rw [Bool.eq_false_iff]; intro e; exact hne (Hbb.out.2 (Hdx.out.1 e).2.2.1))
          go_enter Tryz.func111, Tryz.ntmps111
          go_wp2
          go_ret
          exact ⟨retB HR.out.symm, hB2⟩
      · have HR := Lib.hid (show R = false by rw [Bool.eq_false_iff]; intro e; exact hne ((Hdx.out.1 e).2.1))
        go_enter Tryz.func111, Tryz.ntmps111
        go_wp2
        go_ret
        exact ⟨retB HR.out.symm, hB2⟩
    · have HR := Lib.hid (show R = false by rw [Bool.eq_false_iff]; intro e; exact hne ((Hdx.out.1 e).1))
      go_enter Tryz.func111, Tryz.ntmps111
      go_wp2
      go_ret
      exact ⟨retB HR.out.symm, hB2⟩
end Go.Proofs.YtpkonagjnfphkaaGreatDoor

namespace Go.Proofs.YtpkonagjnfphkaaGreatDoor
open Go.RowKit Trc Cb
set_option linter.unusedSimpArgs false
set_option linter.unusedVariables false
theorem ofA_lt (x : It) : ofA x < 4294967296 := by unfold ofA; split <;> omega
theorem ofB_lt (x : It) : ofB x < 4294967296 := by unfold ofB; split <;> omega
theorem okE_mk {n m : Nat} (hn : n < 4294967296) (hm : m < 4294967296) (hc : Dig.chkP n m = 0) : okE (epI n m) = true ∧ ofA (epI n m) = n ∧ ofB (epI n m) = m := by
  have h0 : n = 0 → m = 0 := fun h => by
    unfold Dig.chkP at hc
    split at hc
    · cases hc
    · rename_i h2; exact Decidable.byContradiction fun h3 => h2 ⟨h, h3⟩
  have hab : ofA (epI n m) = n ∧ ofB (epI n m) = m := by
    by_cases h : n = 0
    · obtain rfl := h
      obtain rfl := h0 rfl
      exact ⟨by unfold ofA; rw [readU_ep0]; rfl, by unfold ofB; rw [readU_ep0]; rfl⟩
    · exact ⟨by unfold ofA; rw [readU_ep n m h]; simp [g5]; omega, by unfold ofB; rw [readU_ep n m h]; simp [g5]; omega⟩
  refine ⟨?_, hab⟩
  unfold okE
  rw [hab.1, hab.2, sameB_refl, hc]; rfl
theorem okE_item {x : It} (h : okE x = true) : x = epI (ofA x) (ofB x) ∧ Dig.chkP (ofA x) (ofB x) = 0 := by
  unfold okE at h
  rw [Bool.and_eq_true] at h
  exact ⟨(sameB_iff x _).1 h.2, of_decide_eq_true h.1⟩
/-- The shape of an endpoint's item that is not none's. -/
theorem ep_shape {n m : Nat} (h : n ≠ 0) : shB (epI n m) [1, 4] = true ∧ (epI n m).l[1]? = some (lI [uI n, uI m]) ∧ shB (lI [uI n, uI m]) [1, 1] = true := by
  unfold epI
  rw [if_neg h]
  exact ⟨rfl, rfl, rfl⟩
theorem okE_far {x : It} (h0 : sameB x (epI 0 0) = false) (hk : okE x = true) : ∃ n m, n ≠ 0 ∧ n < 4294967296 ∧ m < 4294967296 ∧ x = epI n m ∧ ofA x = n ∧ ofB x = m := by
  obtain ⟨h1, h2⟩ := okE_item hk
  refine ⟨ofA x, ofB x, fun h => ?_, ofA_lt x, ofB_lt x, h1, rfl, rfl⟩
  rw [h] at h1
  have : sameB x (epI 0 0) = true := by rw [h1]; unfold epI; rw [if_pos rfl, if_pos rfl]; exact sameB_refl _
  rw [h0] at this
  cases this
theorem bare_ep {n m : Nat} (h : n ≠ 0) : bareB (epI n m) = true := by
  unfold epI
  rw [if_neg h]
  rfl
/-- The other way: what the reference reads is an endpoint's item. -/
theorem okE_of {x : It} {n m : Nat} (hn : n < 4294967296) (hm : m < 4294967296) (h : n ≠ 0) (hx : sameB x (epI n m) = true) : okE x = true ∧ ofA x = n ∧ ofB x = m := by
  have := (sameB_iff x _).1 hx
  subst this
  exact okE_mk hn hm (by unfold Dig.chkP; rw [if_neg (fun e => h e.1)])
end Go.Proofs.YtpkonagjnfphkaaGreatDoor
