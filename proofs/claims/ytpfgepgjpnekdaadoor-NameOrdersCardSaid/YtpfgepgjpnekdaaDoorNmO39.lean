/-
  NmWk: several texts in one (bundle.py).
-/
import Derived.Test.YtpfgepgjpnekdaaDoorNmO38
import Derived.Test.YtpfgepgjpnekdaaDoorNmO23
namespace Go.Proofs.YtpfgepgjpnekdaaDoor
open Go.RowKit Trc
set_option linter.unusedSimpArgs false
set_option linter.unusedVariables false
theorem dec1 (k : Nat) (h : k < 10) : Lib.decDigits k = [UInt8.ofNat (48 + k)] := by rw [Lib.decDigits, dif_pos h]
theorem wk_t1 (w : World) (hT : NmT w) : Calls Tryd.prog 15 #[.agg #[.int .u32 3, .int .u32 5]] w (Ret (.tuple #[.string ⟨#[105, 112, 110, 58, 51, 46, 53]⟩, .int .i64 0]) w) := by
  have h := text_c 3 5 (by decide) (by decide) w hT
  rw [show Dig.chkP 3 5 = 0 from rfl, if_pos rfl, show Dig.toldP 3 5 = [105, 112, 110, 58, 51, 46, 53] by rw [Dig.toldP, if_neg (by decide), dec1 3 (by decide), dec1 5 (by decide)]; rfl] at h
  exact h
theorem wk_t2 (w : World) (hT : NmT w) : Calls Tryd.prog 15 #[.agg #[.int .u32 0, .int .u32 0]] w (Ret (.tuple #[.string ⟨#[100, 116, 110, 58, 110, 111, 110, 101]⟩, .int .i64 0]) w) := by
  have h := text_c 0 0 (by decide) (by decide) w hT
  rw [show Dig.chkP 0 0 = 0 from rfl, if_pos rfl, show Dig.toldP 0 0 = [100, 116, 110, 58, 110, 111, 110, 101] from rfl] at h
  exact h
theorem wk_t3 (w : World) (hT : NmT w) : Calls Tryd.prog 15 #[.agg #[.int .u32 0, .int .u32 1]] w (Ret (.tuple #[.string ⟨#[]⟩, .int .i64 2]) w) := by
  have h := text_c 0 1 (by decide) (by decide) w hT
  rw [show Dig.chkP 0 1 = 2 from rfl, if_neg (by decide)] at h
  exact h
theorem wk_p (l : List UInt8) (hl : l.length ≤ 100) (n m : Nat) (e : Int) (h : Dig.parseP l = ((n, m), e)) (w : World) (hT : NmT w) : Calls Tryd.prog 10 #[strV l] w (Ret (.tuple #[epV n m, .int .i64 e]) w) :=
  (parse_c l (by omega) w hT).mono fun en w' hh => ⟨by rw [hh.2, h], hh.1⟩
theorem wk_p1 (w : World) (hT : NmT w) : Calls Tryd.prog 10 #[.string ⟨#[105, 112, 110, 58, 51, 46, 53]⟩] w (Ret (.tuple #[.agg #[.int .u32 3, .int .u32 5], .int .i64 0]) w) := wk_p [105, 112, 110, 58, 51, 46, 53] (by decide) 3 5 0 (by decide) w hT
theorem wk_p2 (w : World) (hT : NmT w) : Calls Tryd.prog 10 #[.string ⟨#[105, 112, 110, 58, 48, 51, 46, 53]⟩] w (Ret (.tuple #[.agg #[.int .u32 0, .int .u32 0], .int .i64 130]) w) := wk_p [105, 112, 110, 58, 48, 51, 46, 53] (by decide) 0 0 130 (by decide) w hT
theorem wk_p3 (w : World) (hT : NmT w) : Calls Tryd.prog 10 #[.string ⟨#[100, 116, 110, 58, 110, 111, 110, 101]⟩] w (Ret (.tuple #[.agg #[.int .u32 0, .int .u32 0], .int .i64 0]) w) := wk_p [100, 116, 110, 58, 110, 111, 110, 101] (by decide) 0 0 0 (by decide) w hT
theorem wk_n (w : World) (hT : NmT w) : Calls Tryd.prog 16 #[.agg #[.int .u32 3, .int .u32 5, .int .u64 7, .int .u32 9]] w (Ret (.tuple #[.string ⟨#[105, 112, 110, 58, 51, 46, 53, 32, 55, 32, 57]⟩, .int .i64 0]) w) := by
  have h := nameText_c 3 5 7 9 (by decide) (by decide) (by decide) (by decide) w hT
  rw [show Dig.chkN 3 7 = 0 from rfl, if_pos rfl, show Dig.nameT 3 5 7 9 = [105, 112, 110, 58, 51, 46, 53, 32, 55, 32, 57] by rw [Dig.nameT, Dig.toldP, if_neg (by decide), dec1 3 (by decide), dec1 5 (by decide), dec1 7 (by decide), dec1 9 (by decide)]; rfl] at h
  exact h
theorem wk_pn (w : World) (hT : NmT w) : Calls Tryd.prog 11 #[.string ⟨#[105, 112, 110, 58, 51, 46, 53, 32, 55]⟩] w (Ret (.tuple #[.agg #[.int .u32 0, .int .u32 0, .int .u64 0, .int .u32 0], .int .i64 130]) w) :=
  (parseName_c [105, 112, 110, 58, 51, 46, 53, 32, 55] (by decide) w hT).mono fun en w' hh => ⟨by rw [hh.2, show Dig.nameP [105, 112, 110, 58, 51, 46, 53, 32, 55] = (⟨0, 0, 0, 0⟩, 130) from rfl]; rfl, hh.1⟩
theorem wk_o (w : World) : Calls Tryd.prog 18 #[.agg #[.int .u32 3, .int .u32 5, .int .u64 7, .int .u32 9], .agg #[.int .u32 3, .int .u32 5, .int .u64 8, .int .u32 0]] w (Ret (.int .i64 (-1)) w) := by
  have h := order_c ⟨3, 5, 7, 9⟩ ⟨3, 5, 8, 0⟩ ⟨rfl, rfl, rfl, rfl⟩ ⟨rfl, rfl, rfl, rfl⟩ w
  rw [show nmCmp ⟨3, 5, 7, 9⟩ ⟨3, 5, 8, 0⟩ = -1 by decide] at h
  exact h
set_option maxHeartbeats 4000000 in
set_option maxRecDepth 100000 in
theorem nmWorks_c (w : World) (hT : NmT w) : Calls Tryd.prog 9 #[] w (Ret (.bool true) w) := by
  have HT := Lib.hid hT
  clear hT
  go_enter Tryd.func9, Tryd.ntmps9
  go_wp2_with fail
  refine (wk_t1 _ HT.out).mono ?_
  rintro en w1 ⟨rfl, hb1⟩
  have B1 : Below w.heap.size w w1 := hb1
  go_wp2_with fail
  refine (wk_t2 _ (HT.out.up B1)).mono ?_
  rintro en w2 ⟨rfl, hb2⟩
  have B2 := below_up B1 hb2
  go_wp2_with fail
  refine (wk_t3 _ (HT.out.up B2)).mono ?_
  rintro en w3 ⟨rfl, hb3⟩
  have B3 := below_up B2 hb3
  go_wp2_with fail
  refine (wk_p1 _ (HT.out.up B3)).mono ?_
  rintro en w4 ⟨rfl, hb4⟩
  have B4 := below_up B3 hb4
  go_wp2_with fail
  have X4 := RowAt.new w4 #[.int .u32 3, .int .u32 5] 25
  have hq := below_alloc w4 (.cells #[.int .u32 3, .int .u32 5] 25)
  obtain ⟨W4, hW⟩ : ∃ x, w4.alloc (.cells #[.int .u32 3, .int .u32 5] 25) = x := ⟨_, rfl⟩
  rw [hW] at X4 hq ⊢
  have D4 := below_up B4 hq
  clear hW hq
  refine (wk_p2 _ (HT.out.up D4)).mono ?_
  rintro en w5 ⟨rfl, hb5⟩
  have B5 := below_up D4 hb5
  replace X4 := X4.below hb5
  go_wp2_with fail
  have X5 := RowAt.new w5 #[.int .u32 0, .int .u32 0] 25
  have hq := below_alloc w5 (.cells #[.int .u32 0, .int .u32 0] 25)
  obtain ⟨W5, hW⟩ : ∃ x, w5.alloc (.cells #[.int .u32 0, .int .u32 0] 25) = x := ⟨_, rfl⟩
  rw [hW] at X5 hq ⊢
  have D5 := below_up B5 hq
  replace X4 := X4.below hq
  clear hW hq
  refine (wk_p3 _ (HT.out.up D5)).mono ?_
  rintro en w6 ⟨rfl, hb6⟩
  have B6 := below_up D5 hb6
  replace X4 := X4.below hb6
  have x0 := X4.cell (i := 0) rfl
  have x1 := X4.cell (i := 1) rfl
  go_wp2_with fail
  clear x0 x1
  have hq0 := below_alloc w6 (.cells #[.int .u32 0, .int .u32 0] 25)
  have Y6 := RowAt.new w6 #[.int .u32 0, .int .u32 0] 25
  have X6 := RowAt.new (w6.alloc (.cells #[.int .u32 0, .int .u32 0] 25)) #[.int .u32 3, .int .u32 5, .int .u64 7, .int .u32 9] 31
  have hq := hq0.alloc (by simp) (.cells #[.int .u32 3, .int .u32 5, .int .u64 7, .int .u32 9] 31)
  replace Y6 := Y6.alloc (.cells #[.int .u32 3, .int .u32 5, .int .u64 7, .int .u32 9] 31)
  simp only [World.size_alloc] at X6
  obtain ⟨W6, hW⟩ : ∃ x, (w6.alloc (.cells #[.int .u32 0, .int .u32 0] 25)).alloc (.cells #[.int .u32 3, .int .u32 5, .int .u64 7, .int .u32 9] 31) = x := ⟨_, rfl⟩
  rw [hW] at X6 Y6 hq ⊢
  have D6 := below_up B6 hq
  replace X4 := X4.below hq
  clear hW hq hq0
  refine (wk_n _ (HT.out.up D6)).mono ?_
  rintro en w7 ⟨rfl, hb7⟩
  have B7 := below_up D6 hb7
  replace X4 := X4.below hb7
  replace X6 := X6.below hb7
  replace Y6 := Y6.below hb7
  go_wp2_with fail
  refine (wk_pn _ (HT.out.up B7)).mono ?_
  rintro en w8 ⟨rfl, hb8⟩
  have B8 := below_up B7 hb8
  replace X4 := X4.below hb8
  replace X6 := X6.below hb8
  replace Y6 := Y6.below hb8
  have hq := below_alloc w8 (.cells #[.int .u32 0, .int .u32 0, .int .u64 0, .int .u32 0] 31)
  replace X4 := X4.below hq
  replace X6 := X6.below hq
  replace Y6 := Y6.below hq
  have D8 := below_up B8 hq
  clear hq
  have x0 := X4.cell (i := 0) rfl
  have x1 := X4.cell (i := 1) rfl
  have y0 := Y6.cell (i := 0) rfl
  have y1 := Y6.cell (i := 1) rfl
  have z0 := X6.cell (i := 0) rfl
  have z1 := X6.cell (i := 1) rfl
  have z2 := X6.cell (i := 2) rfl
  have z3 := X6.cell (i := 3) rfl
  go_wp2_with (first
    | (go_at_call 14; (with_reducible refine (numL_c _ _).mono ?_); rintro en wn ⟨rfl, rfl⟩)
    | (go_at_call 18; refine (wk_o _).mono ?_; rintro en w9 ⟨rfl, hb9⟩))
  go_ret
  exact ⟨rfl, below_up D8 hb9⟩
end Go.Proofs.YtpfgepgjpnekdaaDoor
