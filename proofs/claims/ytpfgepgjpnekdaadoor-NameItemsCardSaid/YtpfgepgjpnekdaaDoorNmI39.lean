/-
  NmFw, NmWk: several texts in one (bundle.py).
-/
import Derived.Test.YtpfgepgjpnekdaaDoorNmI08
import Derived.Test.YtpfgepgjpnekdaaDoorNmI10
import Derived.Test.YtpfgepgjpnekdaaDoorNmI28
import Derived.Test.YtpfgepgjpnekdaaDoorNmI34
namespace Go.Proofs.YtpfgepgjpnekdaaDoor
open Go.RowKit Cb
set_option linter.unusedSimpArgs false
set_option linter.unusedVariables false
/-- Few parts, so deep. -/
def fewB : Nat → It → Bool
  | 0, _ => false
  | d + 1, x => decide (x.l.length ≤ 5) && (decide (x.b.length ≤ 100) && (decide (x.s.size ≤ 100) && x.l.all (fewB d)))
set_option maxHeartbeats 1000000 in
set_option maxRecDepth 100000 in
theorem few_c (S : Nat → Prop) : ∀ (d : Nat) (x : It) (r : Rw) (w : World), d ≤ 100 → ItR S w x r → Calls Tryd.prog 31 #[rwV r, .int .i64 d] w (Ret (.bool (fewB d x)) w) := by
  intro d
  induction d with
  | zero =>
    intro x r w hd hx
    obtain ⟨k1, n1, ba1, bn1, bc1, s1, la1, ln1, lc1, rfl⟩ := hx.shape
    have hb0 := below_alloc w (.cells (rwC ⟨k1, n1, .slice ba1 bn1 bc1, s1, .slice la1 ln1 lc1⟩).toArray 48)
    have hR : fewB 0 x = false := rfl
    rw [hR]
    have hz : ((0 : Nat) : Int) = 0 := rfl
    rw [hz]
    clear hx hR hz
    generalize hA : decide ((5 : Int) < (ln1 : Int)) = A
    generalize hB : decide ((100 : Int) < (bn1 : Int)) = B
    generalize hC : decide ((100 : Int) < (s1.size : Int)) = C
    cases A
    · cases B
      · cases C
        · go_enter Tryd.func31, Tryd.ntmps31
          go_wp2
          go_ret
          exact ⟨rfl, hb0⟩
        · go_enter Tryd.func31, Tryd.ntmps31
          go_wp2
          go_ret
          exact ⟨rfl, hb0⟩
      · go_enter Tryd.func31, Tryd.ntmps31
        go_wp2
        go_ret
        exact ⟨rfl, hb0⟩
    · go_enter Tryd.func31, Tryd.ntmps31
      go_wp2
      go_ret
      exact ⟨rfl, hb0⟩
  | succ d ih =>
    intro x r w hd hx
    obtain ⟨k1, n1, ba1, bn1, bc1, s1, la1, ln1, lc1, rfl⟩ := hx.shape
    obtain ⟨rows, p⟩ := hx.parts
    have hb0 := below_alloc w (.cells (rwC ⟨k1, n1, .slice ba1 bn1 bc1, s1, .slice la1 ln1 lc1⟩).toArray 48)
    have X0 := RowAt.new w (rwC ⟨k1, n1, .slice ba1 bn1 bc1, s1, .slice la1 ln1 lc1⟩).toArray 48
    have hll : ln1 = x.l.length := by obtain ⟨a, c, h⟩ := p.l.1.len; simp at h; omega
    have hbl : bn1 = x.b.length := by obtain ⟨a, c, h⟩ := p.b.1.len; simp at h; omega
    have hsl : s1 = x.s := p.s
    have hrl : rows.length = x.l.length := p.each.len
    have hl2 : Sl w 5 (.slice la1 ln1 lc1) ln1 (rows.flatMap rwC) := by have := p.l.1; rw [← hll] at this; exact this
    obtain ⟨R, hR⟩ : ∃ R, R = fewB (d + 1) x := ⟨_, rfl⟩
    rw [← hR]
    have hRf : R = (decide (ln1 ≤ 5) && (decide (bn1 ≤ 100) && (decide (s1.size ≤ 100) && x.l.all (fewB d)))) := by rw [hR, hll, hbl, hsl]; rfl
    have HE := Lib.hid p.each
    have hq0 : ((d : Int) + 1 == 0) = false := by simp; omega
    have hdw : IntKind.i64.wrap (d : Int) = d := by rw [IntKind.wrap_i64]; omega
    have hcast : ((d + 1 : Nat) : Int) = (d : Int) + 1 := by omega
    rw [hcast]
    clear hR hx p hcast hbl hsl
    by_cases hA : ln1 ≤ 5
    · have hA2 : decide ((5 : Int) < (ln1 : Int)) = false := decide_eq_false (by omega)
      by_cases hB : bn1 ≤ 100
      · have hB2 : decide ((100 : Int) < (bn1 : Int)) = false := decide_eq_false (by omega)
        by_cases hC : s1.size ≤ 100
        · have hC2 : decide ((100 : Int) < (s1.size : Int)) = false := decide_eq_false (by omega)
          rw [decide_eq_true hA, decide_eq_true hB, decide_eq_true hC, Bool.true_and, Bool.true_and, Bool.true_and] at hRf
          have HRF := Lib.hid hRf
          have HL := Lib.hid hl2
          have HLL := Lib.hid hll
          have HRL := Lib.hid hrl
          have HB0 := Lib.hid hb0
          have HX0 := Lib.hid X0
          have IH := Lib.hid (fun (y : It) (t : Rw) (W : World) (h : ItR S W y t) => ih y t W (by omega) h)
          clear hRf hl2 hll hrl hb0 X0 hB hC ih
          go_enter Tryd.func31, Tryd.ntmps31
          go_wp2
          go_loopw [5] (fun i wr => ∃ j : Nat, j ≤ ln1 ∧ i = .int .i64 j ∧ RowKit.Hid ((x.l.take j).all (fewB d) = true) ∧ Below (w.alloc (.cells (rwC ⟨k1, n1, .slice ba1 bn1 bc1, s1, .slice la1 ln1 lc1⟩).toArray 48)).heap.size (w.alloc (.cells (rwC ⟨k1, n1, .slice ba1 bn1 bc1, s1, .slice la1 ln1 lc1⟩).toArray 48)) wr) (fun i _ => ln1 - (intOf i).toNat)
          case atStart => exact ⟨0, Nat.zero_le _, rfl, Lib.hid (by simp), Below.refl _ _⟩
          case round =>
            obtain ⟨j, hj, rfl, Hall, hB⟩ := hrel
            have HB := Lib.hid (below_up HB0.out hB)
            have x4 := (HX0.out.below hB).cell (i := 4) rfl
            by_cases hlt : j < ln1
            · have hl' : j < x.l.length := by rw [← HLL.out]; exact hlt
              have hr' : j < rows.length := by rw [HRL.out]; exact hl'
              obtain ⟨b, off, rfl, hr⟩ := (HL.out.up HB.out).rec_at (cells := rwC) (sz := 5) (fun _ => rfl) hlt hr'
              have hk := HE.out.get hl' hr'
              have hcl := IH.out _ _ wr (hk.up HB.out)
              have hs1 : x.l.take (j + 1) = x.l.take j ++ [x.l[j]] := List.take_succ_eq_append_getElem hl'
              have Hs := Lib.hid (fun h : fewB d x.l[j] = true => show (x.l.take (j + 1)).all (fewB d) = true by rw [hs1, List.all_append, Hall.out]; simp [h])
              have Hno := Lib.hid (fun h : fewB d x.l[j] = false => show R = false by
                rw [HRF.out, Bool.eq_false_iff]
                intro e
                have := List.all_eq_true.1 e x.l[j] (List.getElem_mem hl')
                rw [h] at this; cases this)
              have hsy := hk.shape
              have hlti : (j : Int) < (ln1 : Int) := by omega
              have hB2 := hB
              clear hs1 hB hk
              generalize rows[j] = ry at *
              obtain ⟨k2, n2, ba2, bn2, bc2, s2, la2, ln2, lc2, rfl⟩ := hsy
              generalize fewB d x.l[j] = z at *
              cases z
              · have HRN := Lib.hid (Hno.out rfl)
                clear Hs Hno
                go_wp2_with (first
                  | (refine wpList_load_mid rfl 48 (.tmp 36) rfl b (off + j * 5) rfl (rwC ⟨k2, n2, .slice ba2 bn2 bc2, s2, .slice la2 ln2 lc2⟩) _ hr Tryd.underlying48 rfl (by kernel_rfl) ?_)
                  | (go_at_call 31; refine hcl.mono ?_; rintro en w1 ⟨rfl, hb1⟩))
                go_ret
                exact ⟨retB HRN.out.symm, below_up HB.out hb1⟩
              · have HST := Lib.hid (Hs.out rfl)
                clear Hs Hno
                go_wp2_with (first
                  | (refine wpList_load_mid rfl 48 (.tmp 36) rfl b (off + j * 5) rfl (rwC ⟨k2, n2, .slice ba2 bn2 bc2, s2, .slice la2 ln2 lc2⟩) _ hr Tryd.underlying48 rfl (by kernel_rfl) ?_)
                  | (go_at_call 31; refine hcl.mono ?_; rintro en w1 ⟨rfl, hb1⟩))
                go_roundw
                case rel => exact ⟨j + 1, by omega, by go_num, HST, below_up hB2 hb1⟩
                case measure => simp [intOf]; omega
            · obtain rfl : j = ln1 := by omega
              have HRT : R = true := by
                rw [HRF.out]
                have := Hall.out
                rwa [List.take_of_length_le (by rw [← HLL.out]; exact Nat.le_refl _)] at this
              go_wp2
              go_ret
              exact ⟨retB HRT.symm, HB.out⟩
        · have hC2 : decide ((100 : Int) < (s1.size : Int)) = true := decide_eq_true (by omega)
          rw [decide_eq_false hC, Bool.false_and, Bool.and_false, Bool.and_false] at hRf
          rw [hRf]
          clear hRf hl2 HE hll hrl X0
          go_enter Tryd.func31, Tryd.ntmps31
          go_wp2
          go_ret
          exact ⟨rfl, hb0⟩
      · have hB2 : decide ((100 : Int) < (bn1 : Int)) = true := decide_eq_true (by omega)
        rw [decide_eq_false hB, Bool.false_and, Bool.and_false] at hRf
        rw [hRf]
        clear hRf hl2 HE hll hrl X0
        go_enter Tryd.func31, Tryd.ntmps31
        go_wp2
        go_ret
        exact ⟨rfl, hb0⟩
    · have hA2 : decide ((5 : Int) < (ln1 : Int)) = true := decide_eq_true (by omega)
      rw [decide_eq_false hA, Bool.false_and] at hRf
      rw [hRf]
      clear hRf hl2 HE hll hrl X0
      go_enter Tryd.func31, Tryd.ntmps31
      go_wp2
      go_ret
      exact ⟨rfl, hb0⟩
end Go.Proofs.YtpfgepgjpnekdaaDoor

namespace Go.Proofs.YtpfgepgjpnekdaaDoor
open Go.RowKit Trc
set_option linter.unusedSimpArgs false
set_option linter.unusedVariables false
theorem dec1 (k : Nat) (h : k < 10) : Lib.decDigits k = [UInt8.ofNat (48 + k)] := by rw [Lib.decDigits, dif_pos h]
theorem wk_t1 (w : World) (hT : NmT w) : Calls Tryd.prog 15 #[.agg #[.int .u32 3, .int .u32 5]] w (Ret (.tuple #[.string ⟨#[105, 112, 110, 58, 51, 46, 53]⟩, .int .i64 0]) w) := by
  have h := text_c 3 5 (by decide) (by decide) w hT
  rw [show Dig.chkP 3 5 = 0 from rfl, if_pos rfl, show Dig.toldP 3 5 = [105, 112, 110, 58, 51, 46, 53] by rw [Dig.toldP, if_neg (by decide), dec1 3 (by decide), dec1 5 (by decide)]; rfl] at h
  exact h
theorem wk_t2 (w : World) (hT : NmT w) : Calls Tryd.prog 15 #[.agg #[.int .u32 0, .int .u32 0]] w (Ret (.tuple #[.string ⟨#[100, 116, 110, 58, 110, 111, 110, 101]⟩, .int .i64 0]) w) := by
  have h := text_c 0 0 (by decide) (by decide) w hT
  rw [show Dig.chkP 0 0 = 0 from rfl, if_pos rfl, show Dig.toldP 0 0 = [100, 116, 110, 58, 110, 111, 110, 101] from rfl] at h
  exact h
theorem wk_t3 (w : World) (hT : NmT w) : Calls Tryd.prog 15 #[.agg #[.int .u32 0, .int .u32 1]] w (Ret (.tuple #[.string ⟨#[]⟩, .int .i64 2]) w) := by
  have h := text_c 0 1 (by decide) (by decide) w hT
  rw [show Dig.chkP 0 1 = 2 from rfl, if_neg (by decide)] at h
  exact h
theorem wk_p (l : List UInt8) (hl : l.length ≤ 100) (n m : Nat) (e : Int) (h : Dig.parseP l = ((n, m), e)) (w : World) (hT : NmT w) : Calls Tryd.prog 10 #[strV l] w (Ret (.tuple #[epV n m, .int .i64 e]) w) :=
  (parse_c l (by omega) w hT).mono fun en w' hh => ⟨by rw [hh.2, h], hh.1⟩
theorem wk_p1 (w : World) (hT : NmT w) : Calls Tryd.prog 10 #[.string ⟨#[105, 112, 110, 58, 51, 46, 53]⟩] w (Ret (.tuple #[.agg #[.int .u32 3, .int .u32 5], .int .i64 0]) w) := wk_p [105, 112, 110, 58, 51, 46, 53] (by decide) 3 5 0 (by decide) w hT
theorem wk_p2 (w : World) (hT : NmT w) : Calls Tryd.prog 10 #[.string ⟨#[105, 112, 110, 58, 48, 51, 46, 53]⟩] w (Ret (.tuple #[.agg #[.int .u32 0, .int .u32 0], .int .i64 130]) w) := wk_p [105, 112, 110, 58, 48, 51, 46, 53] (by decide) 0 0 130 (by decide) w hT
theorem wk_p3 (w : World) (hT : NmT w) : Calls Tryd.prog 10 #[.string ⟨#[100, 116, 110, 58, 110, 111, 110, 101]⟩] w (Ret (.tuple #[.agg #[.int .u32 0, .int .u32 0], .int .i64 0]) w) := wk_p [100, 116, 110, 58, 110, 111, 110, 101] (by decide) 0 0 0 (by decide) w hT
theorem wk_n (w : World) (hT : NmT w) : Calls Tryd.prog 16 #[.agg #[.int .u32 3, .int .u32 5, .int .u64 7, .int .u32 9]] w (Ret (.tuple #[.string ⟨#[105, 112, 110, 58, 51, 46, 53, 32, 55, 32, 57]⟩, .int .i64 0]) w) := by
  have h := nameText_c 3 5 7 9 (by decide) (by decide) (by decide) (by decide) w hT
  rw [show Dig.chkN 3 7 = 0 from rfl, if_pos rfl, show Dig.nameT 3 5 7 9 = [105, 112, 110, 58, 51, 46, 53, 32, 55, 32, 57] by rw [Dig.nameT, Dig.toldP, if_neg (by decide), dec1 3 (by decide), dec1 5 (by decide), dec1 7 (by decide), dec1 9 (by decide)]; rfl] at h
  exact h
theorem wk_pn (w : World) (hT : NmT w) : Calls Tryd.prog 11 #[.string ⟨#[105, 112, 110, 58, 51, 46, 53, 32, 55]⟩] w (Ret (.tuple #[.agg #[.int .u32 0, .int .u32 0, .int .u64 0, .int .u32 0], .int .i64 130]) w) :=
  (parseName_c [105, 112, 110, 58, 51, 46, 53, 32, 55] (by decide) w hT).mono fun en w' hh => ⟨by rw [hh.2, show Dig.nameP [105, 112, 110, 58, 51, 46, 53, 32, 55] = (⟨0, 0, 0, 0⟩, 130) from rfl]; rfl, hh.1⟩
theorem wk_o (w : World) : Calls Tryd.prog 18 #[.agg #[.int .u32 3, .int .u32 5, .int .u64 7, .int .u32 9], .agg #[.int .u32 3, .int .u32 5, .int .u64 8, .int .u32 0]] w (Ret (.int .i64 (-1)) w) := by
  have h := order_c ⟨3, 5, 7, 9⟩ ⟨3, 5, 8, 0⟩ ⟨rfl, rfl, rfl, rfl⟩ ⟨rfl, rfl, rfl, rfl⟩ w
  rw [show nmCmp ⟨3, 5, 7, 9⟩ ⟨3, 5, 8, 0⟩ = -1 by decide] at h
  exact h
set_option maxHeartbeats 4000000 in
set_option maxRecDepth 100000 in
theorem nmWorks_c (w : World) (hT : NmT w) : Calls Tryd.prog 9 #[] w (Ret (.bool true) w) := by
  have HT := Lib.hid hT
  clear hT
  go_enter Tryd.func9, Tryd.ntmps9
  go_wp2_with fail
  refine (wk_t1 _ HT.out).mono ?_
  rintro en w1 ⟨rfl, hb1⟩
  have B1 : Below w.heap.size w w1 := hb1
  go_wp2_with fail
  refine (wk_t2 _ (HT.out.up B1)).mono ?_
  rintro en w2 ⟨rfl, hb2⟩
  have B2 := below_up B1 hb2
  go_wp2_with fail
  refine (wk_t3 _ (HT.out.up B2)).mono ?_
  rintro en w3 ⟨rfl, hb3⟩
  have B3 := below_up B2 hb3
  go_wp2_with fail
  refine (wk_p1 _ (HT.out.up B3)).mono ?_
  rintro en w4 ⟨rfl, hb4⟩
  have B4 := below_up B3 hb4
  go_wp2_with fail
  have X4 := RowAt.new w4 #[.int .u32 3, .int .u32 5] 25
  have hq := below_alloc w4 (.cells #[.int .u32 3, .int .u32 5] 25)
  obtain ⟨W4, hW⟩ : ∃ x, w4.alloc (.cells #[.int .u32 3, .int .u32 5] 25) = x := ⟨_, rfl⟩
  rw [hW] at X4 hq ⊢
  have D4 := below_up B4 hq
  clear hW hq
  refine (wk_p2 _ (HT.out.up D4)).mono ?_
  rintro en w5 ⟨rfl, hb5⟩
  have B5 := below_up D4 hb5
  replace X4 := X4.below hb5
  go_wp2_with fail
  have X5 := RowAt.new w5 #[.int .u32 0, .int .u32 0] 25
  have hq := below_alloc w5 (.cells #[.int .u32 0, .int .u32 0] 25)
  obtain ⟨W5, hW⟩ : ∃ x, w5.alloc (.cells #[.int .u32 0, .int .u32 0] 25) = x := ⟨_, rfl⟩
  rw [hW] at X5 hq ⊢
  have D5 := below_up B5 hq
  replace X4 := X4.below hq
  clear hW hq
  refine (wk_p3 _ (HT.out.up D5)).mono ?_
  rintro en w6 ⟨rfl, hb6⟩
  have B6 := below_up D5 hb6
  replace X4 := X4.below hb6
  have x0 := X4.cell (i := 0) rfl
  have x1 := X4.cell (i := 1) rfl
  go_wp2_with fail
  clear x0 x1
  have hq0 := below_alloc w6 (.cells #[.int .u32 0, .int .u32 0] 25)
  have Y6 := RowAt.new w6 #[.int .u32 0, .int .u32 0] 25
  have X6 := RowAt.new (w6.alloc (.cells #[.int .u32 0, .int .u32 0] 25)) #[.int .u32 3, .int .u32 5, .int .u64 7, .int .u32 9] 31
  have hq := hq0.alloc (by simp) (.cells #[.int .u32 3, .int .u32 5, .int .u64 7, .int .u32 9] 31)
  replace Y6 := Y6.alloc (.cells #[.int .u32 3, .int .u32 5, .int .u64 7, .int .u32 9] 31)
  simp only [World.size_alloc] at X6
  obtain ⟨W6, hW⟩ : ∃ x, (w6.alloc (.cells #[.int .u32 0, .int .u32 0] 25)).alloc (.cells #[.int .u32 3, .int .u32 5, .int .u64 7, .int .u32 9] 31) = x := ⟨_, rfl⟩
  rw [hW] at X6 Y6 hq ⊢
  have D6 := below_up B6 hq
  replace X4 := X4.below hq
  clear hW hq hq0
  refine (wk_n _ (HT.out.up D6)).mono ?_
  rintro en w7 ⟨rfl, hb7⟩
  have B7 := below_up D6 hb7
  replace X4 := X4.below hb7
  replace X6 := X6.below hb7
  replace Y6 := Y6.below hb7
  go_wp2_with fail
  refine (wk_pn _ (HT.out.up B7)).mono ?_
  rintro en w8 ⟨rfl, hb8⟩
  have B8 := below_up B7 hb8
  replace X4 := X4.below hb8
  replace X6 := X6.below hb8
  replace Y6 := Y6.below hb8
  have hq := below_alloc w8 (.cells #[.int .u32 0, .int .u32 0, .int .u64 0, .int .u32 0] 31)
  replace X4 := X4.below hq
  replace X6 := X6.below hq
  replace Y6 := Y6.below hq
  have D8 := below_up B8 hq
  clear hq
  have x0 := X4.cell (i := 0) rfl
  have x1 := X4.cell (i := 1) rfl
  have y0 := Y6.cell (i := 0) rfl
  have y1 := Y6.cell (i := 1) rfl
  have z0 := X6.cell (i := 0) rfl
  have z1 := X6.cell (i := 1) rfl
  have z2 := X6.cell (i := 2) rfl
  have z3 := X6.cell (i := 3) rfl
  go_wp2_with (first
    | (go_at_call 14; (with_reducible refine (numL_c _ _).mono ?_); rintro en wn ⟨rfl, rfl⟩)
    | (go_at_call 18; refine (wk_o _).mono ?_; rintro en w9 ⟨rfl, hb9⟩))
  go_ret
  exact ⟨rfl, below_up D8 hb9⟩
end Go.Proofs.YtpfgepgjpnekdaaDoor
