/-
  NameTexts: the walk.
-/
import Derived.Test.YtpfgepgjpnekdaaDoorNmRp
import Derived.Test.YtpfgepgjpnekdaaDoorNmWk
namespace Go.Proofs.YtpfgepgjpnekdaaDoor
open Go.RowKit Trc
set_option linter.unusedSimpArgs false
set_option linter.unusedVariables false
namespace Dig
theorem toNum_dec {l : List UInt8} {bound n : Nat} (hb : bound < 10000000000000000000) (h : toNum l bound = some n) : Lib.decDigits n = l :=
  ((bounded_iff l bound n (by omega)).2 ((toNum_iff l bound n hb).1 h)).2.2
/-- The text of what is read of a text is that text. -/
theorem endP_told {l : List UInt8} {n m : Nat} (h : endP l = some (n, m)) : toldP n m = l ∧ chkP n m = 0 := by
  unfold endP at h
  split at h
  · rename_i hl
    simp only [Option.some.injEq, Prod.mk.injEq] at h
    obtain ⟨rfl, rfl⟩ := h
    exact ⟨by rw [hl]; rfl, rfl⟩
  · split at h
    · rename_i hi
      split at h
      · cases h
      · rename_i a b hc
        split at h
        · rename_i n' m' hn hm
          split at h
          · cases h
          · rename_i h0
            simp only [Option.some.injEq, Prod.mk.injEq] at h
            obtain ⟨rfl, rfl⟩ := h
            have e := (cut_some hc).1
            have e2 : l = ipnL ++ l.drop 4 := by rw [← hi, List.take_append_drop]
            refine ⟨?_, if_neg (fun h => h0 h.1)⟩
            unfold toldP
            rw [if_neg h0, toNum_dec (by decide) hn, toNum_dec (by decide) hm]
            rw [e2, e]
            simp
        · cases h
    · cases h
theorem nameQ_told {l : List UInt8} {q : N4} (h : nameQ l = some q) : nameT q.n q.m q.t q.s = l ∧ chkN q.n q.t = 0 ∧ q.n < 4294967296 ∧ q.m < 4294967296 ∧ q.t < 18446744073709551616 ∧ q.s < 4294967296 := by
  unfold nameQ at h
  split at h
  · cases h
  · rename_i a r hc
    split at h
    · cases h
    · rename_i p he
      split at h
      · cases h
      · rename_i b c hc2
        split at h
        · cases h
        · rename_i t ht
          split at h
          · cases h
          · rename_i s hs
            split at h
            · cases h
            · rename_i h0
              simp only [Option.some.injEq] at h
              subst h
              have e := (cut_some hc).1
              have e2 := (cut_some hc2).1
              have e3 := (endP_told (n := p.1) (m := p.2) he).1
              have h1 := endP_le he
              have h2 := toNum_le ht
              have h3 := toNum_le hs
              refine ⟨?_, if_neg (fun h => by rcases h with h | h; exact h0 h; simp only at h; omega), by simp only; omega, by simp only; omega, by simp only; omega, by simp only; omega⟩
              unfold nameT
              simp only
              rw [e3, toNum_dec (by decide) ht, toNum_dec (by decide) hs, e, e2]
              simp
theorem parse_ex (l : List UInt8) : ∃ n m e, parseP l = ((n, m), e) ∧ n < 4294967296 ∧ m < 4294967296 ∧ (e = 0 → toldP n m = l ∧ chkP n m = 0) := by
  unfold parseP
  split
  · exact ⟨0, 0, 3, rfl, by decide, by decide, fun h => by cases h⟩
  · cases h : endP l with
    | none => exact ⟨0, 0, 130, rfl, by decide, by decide, fun h => by cases h⟩
    | some p =>
      have hle := endP_le h
      exact ⟨p.1, p.2, 0, rfl, by omega, by omega, fun _ => endP_told (n := p.1) (m := p.2) h⟩
theorem pname_ex (l : List UInt8) : ∃ n m t s e, nameP l = (⟨n, m, t, s⟩, e) ∧ n < 4294967296 ∧ m < 4294967296 ∧ t < 18446744073709551616 ∧ s < 4294967296 ∧ (e = 0 → nameT n m t s = l ∧ chkN n t = 0) := by
  unfold nameP
  split
  · exact ⟨0, 0, 0, 0, 3, rfl, by decide, by decide, by decide, by decide, fun h => by cases h⟩
  · cases h : nameQ l with
    | none => exact ⟨0, 0, 0, 0, 130, rfl, by decide, by decide, by decide, by decide, fun h => by cases h⟩
    | some q =>
      obtain ⟨h1, h2, h3, h4, h5, h6⟩ := nameQ_told h
      exact ⟨q.n, q.m, q.t, q.s, 0, rfl, h3, h4, h5, h6, fun _ => ⟨h1, h2⟩⟩
end Dig
set_option maxHeartbeats 8000000 in
set_option maxRecDepth 100000 in
theorem nameTexts_law (l : List UInt8) (w : World) (hT : NmT w) : Calls Tryd.prog 3 #[strV l] w (Ret (.bool true) w) := by
  have hlz : (⟨l.toArray⟩ : ByteArray).size = l.length := by show l.toArray.size = _; simp
  have HT := Lib.hid hT
  clear hT
  by_cases hbig : 300 < l.length
  · have hd : decide ((300 : Int) < (l.length : Int)) = true := decide_eq_true (by omega)
    go_enter Tryd.func3, Tryd.ntmps3
    go_wp2_with (go_at_call 9; refine (nmWorks_c _ HT.out).mono ?_; rintro en w1 ⟨rfl, hb1⟩)
    go_ret
    exact ⟨rfl, hb1⟩
  · have hd : decide ((300 : Int) < (l.length : Int)) = false := decide_eq_false (by omega)
    have hl : l.length ≤ 281474976710656 := by omega
    obtain ⟨n, m, e1, hp, hn, hm, he1⟩ := Dig.parse_ex l
    obtain ⟨a, b, t, s, e2, hq, ha, hb, ht, hs, he2⟩ := Dig.pname_ex l
    have HP := Lib.hid hp
    have HQ := Lib.hid hq
    have H1 := Lib.hid he1
    have H2 := Lib.hid he2
    clear hp hq he1 he2
    go_enter Tryd.func3, Tryd.ntmps3
    go_wp2_with fail
    refine (parse_c l hl _ HT.out).mono ?_
    rintro en w1 ⟨B1, rfl⟩
    rw [HP.out]
    go_wp2_with fail
    have X1 := RowAt.new w1 #[.int .u32 n, .int .u32 m] 25
    have hq := below_alloc w1 (.cells #[.int .u32 n, .int .u32 m] 25)
    obtain ⟨W1, hW⟩ : ∃ x, w1.alloc (.cells #[.int .u32 n, .int .u32 m] 25) = x := ⟨_, rfl⟩
    rw [hW] at X1 hq ⊢
    have D1 := below_up B1 hq
    clear hW hq
    refine (parseName_c l hl _ (HT.out.up D1)).mono ?_
    rintro en w2 ⟨hb2, rfl⟩
    rw [HQ.out]
    have B2 := below_up D1 hb2
    replace X1 := X1.below hb2
    clear hb2
    go_wp2_with fail
    have X2 := RowAt.new w2 #[.int .u32 a, .int .u32 b, .int .u64 t, .int .u32 s] 31
    have hq := below_alloc w2 (.cells #[.int .u32 a, .int .u32 b, .int .u64 t, .int .u32 s] 31)
    obtain ⟨W2, hW⟩ : ∃ x, w2.alloc (.cells #[.int .u32 a, .int .u32 b, .int .u64 t, .int .u32 s] 31) = x := ⟨_, rfl⟩
    rw [hW] at X2 hq ⊢
    have D2 := below_up B2 hq
    replace X1 := X1.below hq
    clear hW hq
    have hrp := rParse_c l hl W2
    unfold ParV at hrp
    rw [HP.out] at hrp
    refine hrp.mono ?_
    rintro en w3 ⟨rfl, hb3⟩
    have B3 := below_up D2 hb3
    replace X1 := X1.below hb3
    replace X2 := X2.below hb3
    clear hb3 hrp
    go_wp2_with fail
    have X3 := RowAt.new w3 #[.int .u32 n, .int .u32 m] 25
    have hq := below_alloc w3 (.cells #[.int .u32 n, .int .u32 m] 25)
    obtain ⟨W3, hW⟩ : ∃ x, w3.alloc (.cells #[.int .u32 n, .int .u32 m] 25) = x := ⟨_, rfl⟩
    rw [hW] at X3 hq ⊢
    have D3 := below_up B3 hq
    replace X1 := X1.below hq
    replace X2 := X2.below hq
    clear hW hq
    have hrp := rParseName_c l hl W3
    unfold PnV at hrp
    rw [HQ.out] at hrp
    refine hrp.mono ?_
    rintro en w4 ⟨rfl, hb4⟩
    have B4 := below_up D3 hb4
    replace X1 := X1.below hb4
    replace X2 := X2.below hb4
    replace X3 := X3.below hb4
    clear hb4 hrp
    have X4 := RowAt.new w4 #[.int .u32 a, .int .u32 b, .int .u64 t, .int .u32 s] 31
    have hq := below_alloc w4 (.cells #[.int .u32 a, .int .u32 b, .int .u64 t, .int .u32 s] 31)
    have D4 := below_up B4 hq
    replace X1 := X1.below hq
    replace X2 := X2.below hq
    replace X3 := X3.below hq
    have x0 := X1.cell (i := 0) rfl
    have x1 := X1.cell (i := 1) rfl
    have y0 := X2.cell (i := 0) rfl
    have y1 := X2.cell (i := 1) rfl
    have y2 := X2.cell (i := 2) rfl
    have y3 := X2.cell (i := 3) rfl
    have z0 := X3.cell (i := 0) rfl
    have z1 := X3.cell (i := 1) rfl
    have u0 := X4.cell (i := 0) rfl
    have u1 := X4.cell (i := 1) rfl
    have u2 := X4.cell (i := 2) rfl
    have u3 := X4.cell (i := 3) rfl
    by_cases h1 : e1 = 0
    · subst h1
      by_cases h2 : e2 = 0
      · subst h2
        have HC1 := Lib.hid (H1.out rfl)
        have HC2 := Lib.hid (H2.out rfl)
        clear H1 H2
        have htx := text_c n m hn hm (w4.alloc (.cells #[.int .u32 a, .int .u32 b, .int .u64 t, .int .u32 s] 31)) (HT.out.up D4)
        rw [HC1.out.2, if_pos rfl, HC1.out.1] at htx
        have HTX := Lib.hid htx
        clear htx
        go_wp2_with (first
          | (go_at_call 14; (with_reducible refine (numL_c _ _).mono ?_); rintro en wn ⟨rfl, rfl⟩)
          | (go_at_call 15; refine HTX.out.mono ?_; rintro en w5 ⟨rfl, hb5⟩; have D5 := below_up D4 hb5; have V2 := X2.below hb5; have v0 := V2.cell (i := 0) rfl; have v1 := V2.cell (i := 1) rfl; have v2 := V2.cell (i := 2) rfl; have v3 := V2.cell (i := 3) rfl)
          | (go_at_call 16; have htn := nameText_c a b t s ha hb ht hs w5 (HT.out.up D5); rw [HC2.out.2, if_pos rfl, HC2.out.1] at htn; refine htn.mono ?_; rintro en w6 ⟨rfl, hb6⟩; have D6 := below_up D5 hb6)
          | (go_at_call 9; refine (nmWorks_c _ (HT.out.up D6)).mono ?_; rintro en w7 ⟨rfl, hb7⟩))
        go_ret
        exact ⟨rfl, below_up D6 hb7⟩
      · have d2 : (e2 == 0) = false := by simpa using h2
        clear h2
        have HC1 := Lib.hid (H1.out rfl)
        clear H1 H2
        have htx := text_c n m hn hm (w4.alloc (.cells #[.int .u32 a, .int .u32 b, .int .u64 t, .int .u32 s] 31)) (HT.out.up D4)
        rw [HC1.out.2, if_pos rfl, HC1.out.1] at htx
        have HTX := Lib.hid htx
        clear htx
        go_wp2_with (first
          | (go_at_call 14; (with_reducible refine (numL_c _ _).mono ?_); rintro en wn ⟨rfl, rfl⟩)
          | (go_at_call 15; refine HTX.out.mono ?_; rintro en w5 ⟨rfl, hb5⟩; have D5 := below_up D4 hb5; have V2 := X2.below hb5; have v0 := V2.cell (i := 0) rfl; have v1 := V2.cell (i := 1) rfl; have v2 := V2.cell (i := 2) rfl; have v3 := V2.cell (i := 3) rfl)
          | (go_at_call 9; refine (nmWorks_c _ (HT.out.up D5)).mono ?_; rintro en w7 ⟨rfl, hb7⟩))
        go_ret
        exact ⟨rfl, below_up D5 hb7⟩
    · have d1 : (e1 == 0) = false := by simpa using h1
      clear h1
      by_cases h2 : e2 = 0
      · subst h2
        have HC2 := Lib.hid (H2.out rfl)
        clear H1 H2
        go_wp2_with (first
          | (go_at_call 14; (with_reducible refine (numL_c _ _).mono ?_); rintro en wn ⟨rfl, rfl⟩)
          | (go_at_call 16; have htn := nameText_c a b t s ha hb ht hs (w4.alloc (.cells #[.int .u32 a, .int .u32 b, .int .u64 t, .int .u32 s] 31)) (HT.out.up D4); rw [HC2.out.2, if_pos rfl, HC2.out.1] at htn; refine htn.mono ?_; rintro en w6 ⟨rfl, hb6⟩; have D6 := below_up D4 hb6)
          | (go_at_call 9; refine (nmWorks_c _ (HT.out.up D6)).mono ?_; rintro en w7 ⟨rfl, hb7⟩))
        go_ret
        exact ⟨rfl, below_up D6 hb7⟩
      · have d2 : (e2 == 0) = false := by simpa using h2
        clear h2
        clear H1 H2
        go_wp2_with (first
          | (go_at_call 14; (with_reducible refine (numL_c _ _).mono ?_); rintro en wn ⟨rfl, rfl⟩)
          | (go_at_call 9; refine (nmWorks_c _ (HT.out.up D4)).mono ?_; rintro en w7 ⟨rfl, hb7⟩))
        go_ret
        exact ⟨rfl, below_up D4 hb7⟩
end Go.Proofs.YtpfgepgjpnekdaaDoor
