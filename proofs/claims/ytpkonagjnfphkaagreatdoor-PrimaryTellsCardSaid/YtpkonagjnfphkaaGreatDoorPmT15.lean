/-
  PrQ: several texts in one (bundle.py).
-/
import Derived.Test.YtpkonagjnfphkaaGreatDoorPmT14
namespace Go.Proofs.YtpkonagjnfphkaaGreatDoor
open Go.RowKit Trc
set_option linter.unusedSimpArgs false
set_option linter.unusedVariables false
set_option maxHeartbeats 1000000 in
set_option maxRecDepth 100000 in
theorem prHas_c (p : Prm.Pr) (hf : p.flags < 4294967296) (q : Nat) (hq : q < 4294967296) (w : World) : Calls Tryz.prog 13 #[prV p, .int .u32 q] w (Ret (.bool (Prm.hasB p.flags q)) w) := by
  have X0 := RowAt.new w (prC p).toArray 28
  have hB := below_alloc w (.cells (prC p).toArray 28)
  have x0 := X0.cell (i := 0) rfl
  by_cases h2 : q = 2
  · subst h2
    rw [show Prm.hasB p.flags 2 = decide (p.flags / 2 % 2 = 1) from rfl]
    have ha := Prm.and32 p.flags 2 hf (by decide)
    have hh := Prm.has2 p.flags
    have hx : (((p.flags &&& 2 : Nat) : Int) != 0) = decide (p.flags / 2 % 2 = 1) := by rw [← hh, Bool.eq_iff_iff, bne_iff_ne, bne_iff_ne]; omega
    obtain ⟨z, hz⟩ : ∃ z : Nat, p.flags &&& 2 = z := ⟨_, rfl⟩
    obtain ⟨y, hy⟩ : ∃ y : Bool, decide (p.flags / 2 % 2 = 1) = y := ⟨_, rfl⟩
    rw [hz] at ha hx
    rw [hy] at hx ⊢
    have ha : bits .and .u32 (p.flags : Int) 2 = (z : Int) := ha
    clear hh hz hy
    go_enter Tryz.func13, Tryz.ntmps13
    go_wp2
    go_ret
    exact ⟨rfl, hB⟩
  · have e2 : ((q : Int) == 2) = false := by rw [beq_eq_false_iff_ne]; omega
    by_cases h3 : q = 32
    · subst h3
      rw [show Prm.hasB p.flags 32 = decide (p.flags / 32 % 2 = 1) from rfl]
      have ha := Prm.and32 p.flags 32 hf (by decide)
      have hh := Prm.has32 p.flags
      have hx : (((p.flags &&& 32 : Nat) : Int) != 0) = decide (p.flags / 32 % 2 = 1) := by rw [← hh, Bool.eq_iff_iff, bne_iff_ne, bne_iff_ne]; omega
      obtain ⟨z, hz⟩ : ∃ z : Nat, p.flags &&& 32 = z := ⟨_, rfl⟩
      obtain ⟨y, hy⟩ : ∃ y : Bool, decide (p.flags / 32 % 2 = 1) = y := ⟨_, rfl⟩
      rw [hz] at ha hx
      rw [hy] at hx ⊢
      have ha : bits .and .u32 (p.flags : Int) 32 = (z : Int) := ha
      clear hh hz hy
      go_enter Tryz.func13, Tryz.ntmps13
      go_wp2
      go_ret
      exact ⟨rfl, hB⟩
    · have e3 : ((q : Int) == 32) = false := by rw [beq_eq_false_iff_ne]; omega
      rw [show Prm.hasB p.flags q = false by unfold Prm.hasB; rw [show (q == 2) = false by simpa using h2, show (q == 32) = false by simpa using h3]; rfl]
      clear h2 h3
      go_enter Tryz.func13, Tryz.ntmps13
      go_wp2
      go_ret
      exact ⟨rfl, hB⟩
set_option maxHeartbeats 1000000 in
set_option maxRecDepth 100000 in
theorem rHas_c (p : Prm.Pr) (hf : p.flags < 4294967296) (q : Nat) (hq : q < 4294967296) (w : World) : Calls Tryz.prog 14 #[prV p, .int .u32 q] w (Ret (.bool (Prm.hasB p.flags q)) w) := by
  have X0 := RowAt.new w (prC p).toArray 28
  have hB := below_alloc w (.cells (prC p).toArray 28)
  have x0 := X0.cell (i := 0) rfl
  by_cases h2 : q = 2
  · subst h2
    rw [show Prm.hasB p.flags 2 = decide (p.flags / 2 % 2 = 1) from rfl]
    have hd : ((p.flags : Int).tdiv 2) = ((p.flags / 2 : Nat) : Int) := by rw [Int.tdiv_eq_ediv_of_nonneg (by omega)]; omega
    obtain ⟨y, hy⟩ : ∃ y : Bool, decide (p.flags / 2 % 2 = 1) = y := ⟨_, rfl⟩
    have hx : ((p.flags : Int) / 2 % 2 == 1) = y := by rw [← hy, Bool.eq_iff_iff, beq_iff_eq, decide_eq_true_eq]; omega
    rw [hy]
    clear hy
    go_enter Tryz.func14, Tryz.ntmps14
    go_wp2
    go_ret
    exact ⟨rfl, hB⟩
  · have e2 : ((q : Int) == 2) = false := by rw [beq_eq_false_iff_ne]; omega
    by_cases h3 : q = 32
    · subst h3
      rw [show Prm.hasB p.flags 32 = decide (p.flags / 32 % 2 = 1) from rfl]
      have hd : ((p.flags : Int).tdiv 32) = ((p.flags / 32 : Nat) : Int) := by rw [Int.tdiv_eq_ediv_of_nonneg (by omega)]; omega
      obtain ⟨y, hy⟩ : ∃ y : Bool, decide (p.flags / 32 % 2 = 1) = y := ⟨_, rfl⟩
      have hx : ((p.flags : Int) / 32 % 2 == 1) = y := by rw [← hy, Bool.eq_iff_iff, beq_iff_eq, decide_eq_true_eq]; omega
      rw [hy]
      clear hy
      go_enter Tryz.func14, Tryz.ntmps14
      go_wp2
      go_ret
      exact ⟨rfl, hB⟩
    · have e3 : ((q : Int) == 32) = false := by rw [beq_eq_false_iff_ne]; omega
      rw [show Prm.hasB p.flags q = false by unfold Prm.hasB; rw [show (q == 2) = false by simpa using h2, show (q == 32) = false by simpa using h3]; rfl]
      clear h2 h3
      go_enter Tryz.func14, Tryz.ntmps14
      go_wp2
      go_ret
      exact ⟨rfl, hB⟩
set_option maxHeartbeats 1000000 in
set_option maxRecDepth 100000 in
theorem rFlagsRight_c (f : Nat) (hf : f < 4294967296) (w : World) : Calls Tryz.prog 37 #[.int .u32 f] w (Ret (.bool (Prm.flagsB f)) w) := by
  unfold Prm.flagsB
  by_cases h1 : f ≤ 418
  · have d1 : decide ((f : Int) ≤ 418) = true := decide_eq_true (by omega)
    by_cases hk0 : f % 128 = 0
    · have d2 : decide ((f : Int) % 128 ≤ 34) = true := decide_eq_true (by omega)
      have e0 : ((f : Int) % 128 == 0) = true := by rw [beq_iff_eq]; omega
      have e2 : ((f : Int) % 128 == 2) = false := by rw [beq_eq_false_iff_ne]; omega
      have e32 : ((f : Int) % 128 == 32) = false := by rw [beq_eq_false_iff_ne]; omega
      have e34 : ((f : Int) % 128 == 34) = false := by rw [beq_eq_false_iff_ne]; omega
      by_cases h3 : f / 128 ≤ 2
      · have d3 : decide ((f : Int) / 128 ≤ 2) = true := decide_eq_true (by omega)
        rw [decide_eq_true (show f ≤ 418 ∧ (f % 128 = 0 ∨ f % 128 = 2 ∨ f % 128 = 32 ∨ f % 128 = 34) ∧ f / 128 ≤ 2 by omega)]
        clear h1 h3 hk0
        go_enter Tryz.func37, Tryz.ntmps37
        go_wp2
        go_ret
        exact ⟨rfl, Below.refl _ _⟩
      · have d3 : decide ((f : Int) / 128 ≤ 2) = false := decide_eq_false (by omega)
        rw [decide_eq_false (show ¬ (f ≤ 418 ∧ (f % 128 = 0 ∨ f % 128 = 2 ∨ f % 128 = 32 ∨ f % 128 = 34) ∧ f / 128 ≤ 2) by omega)]
        clear h1 h3 hk0
        go_enter Tryz.func37, Tryz.ntmps37
        go_wp2
        go_ret
        exact ⟨rfl, Below.refl _ _⟩
    by_cases hk2 : f % 128 = 2
    · have d2 : decide ((f : Int) % 128 ≤ 34) = true := decide_eq_true (by omega)
      have e0 : ((f : Int) % 128 == 0) = false := by rw [beq_eq_false_iff_ne]; omega
      have e2 : ((f : Int) % 128 == 2) = true := by rw [beq_iff_eq]; omega
      have e32 : ((f : Int) % 128 == 32) = false := by rw [beq_eq_false_iff_ne]; omega
      have e34 : ((f : Int) % 128 == 34) = false := by rw [beq_eq_false_iff_ne]; omega
      by_cases h3 : f / 128 ≤ 2
      · have d3 : decide ((f : Int) / 128 ≤ 2) = true := decide_eq_true (by omega)
        rw [decide_eq_true (show f ≤ 418 ∧ (f % 128 = 0 ∨ f % 128 = 2 ∨ f % 128 = 32 ∨ f % 128 = 34) ∧ f / 128 ≤ 2 by omega)]
        clear h1 h3 hk2
        go_enter Tryz.func37, Tryz.ntmps37
        go_wp2
        go_ret
        exact ⟨rfl, Below.refl _ _⟩
      · have d3 : decide ((f : Int) / 128 ≤ 2) = false := decide_eq_false (by omega)
        rw [decide_eq_false (show ¬ (f ≤ 418 ∧ (f % 128 = 0 ∨ f % 128 = 2 ∨ f % 128 = 32 ∨ f % 128 = 34) ∧ f / 128 ≤ 2) by omega)]
        clear h1 h3 hk2
        go_enter Tryz.func37, Tryz.ntmps37
        go_wp2
        go_ret
        exact ⟨rfl, Below.refl _ _⟩
    by_cases hk32 : f % 128 = 32
    · have d2 : decide ((f : Int) % 128 ≤ 34) = true := decide_eq_true (by omega)
      have e0 : ((f : Int) % 128 == 0) = false := by rw [beq_eq_false_iff_ne]; omega
      have e2 : ((f : Int) % 128 == 2) = false := by rw [beq_eq_false_iff_ne]; omega
      have e32 : ((f : Int) % 128 == 32) = true := by rw [beq_iff_eq]; omega
      have e34 : ((f : Int) % 128 == 34) = false := by rw [beq_eq_false_iff_ne]; omega
      by_cases h3 : f / 128 ≤ 2
      · have d3 : decide ((f : Int) / 128 ≤ 2) = true := decide_eq_true (by omega)
        rw [decide_eq_true (show f ≤ 418 ∧ (f % 128 = 0 ∨ f % 128 = 2 ∨ f % 128 = 32 ∨ f % 128 = 34) ∧ f / 128 ≤ 2 by omega)]
        clear h1 h3 hk32
        go_enter Tryz.func37, Tryz.ntmps37
        go_wp2
        go_ret
        exact ⟨rfl, Below.refl _ _⟩
      · have d3 : decide ((f : Int) / 128 ≤ 2) = false := decide_eq_false (by omega)
        rw [decide_eq_false (show ¬ (f ≤ 418 ∧ (f % 128 = 0 ∨ f % 128 = 2 ∨ f % 128 = 32 ∨ f % 128 = 34) ∧ f / 128 ≤ 2) by omega)]
        clear h1 h3 hk32
        go_enter Tryz.func37, Tryz.ntmps37
        go_wp2
        go_ret
        exact ⟨rfl, Below.refl _ _⟩
    by_cases hk34 : f % 128 = 34
    · have d2 : decide ((f : Int) % 128 ≤ 34) = true := decide_eq_true (by omega)
      have e0 : ((f : Int) % 128 == 0) = false := by rw [beq_eq_false_iff_ne]; omega
      have e2 : ((f : Int) % 128 == 2) = false := by rw [beq_eq_false_iff_ne]; omega
      have e32 : ((f : Int) % 128 == 32) = false := by rw [beq_eq_false_iff_ne]; omega
      have e34 : ((f : Int) % 128 == 34) = true := by rw [beq_iff_eq]; omega
      by_cases h3 : f / 128 ≤ 2
      · have d3 : decide ((f : Int) / 128 ≤ 2) = true := decide_eq_true (by omega)
        rw [decide_eq_true (show f ≤ 418 ∧ (f % 128 = 0 ∨ f % 128 = 2 ∨ f % 128 = 32 ∨ f % 128 = 34) ∧ f / 128 ≤ 2 by omega)]
        clear h1 h3 hk34
        go_enter Tryz.func37, Tryz.ntmps37
        go_wp2
        go_ret
        exact ⟨rfl, Below.refl _ _⟩
      · have d3 : decide ((f : Int) / 128 ≤ 2) = false := decide_eq_false (by omega)
        rw [decide_eq_false (show ¬ (f ≤ 418 ∧ (f % 128 = 0 ∨ f % 128 = 2 ∨ f % 128 = 32 ∨ f % 128 = 34) ∧ f / 128 ≤ 2) by omega)]
        clear h1 h3 hk34
        go_enter Tryz.func37, Tryz.ntmps37
        go_wp2
        go_ret
        exact ⟨rfl, Below.refl _ _⟩
    have hno : ¬ (f ≤ 418 ∧ (f % 128 = 0 ∨ f % 128 = 2 ∨ f % 128 = 32 ∨ f % 128 = 34) ∧ f / 128 ≤ 2) := by omega
    rw [decide_eq_false hno]
    have e0 : ((f : Int) % 128 == 0) = false := by rw [beq_eq_false_iff_ne]; omega
    have e2 : ((f : Int) % 128 == 2) = false := by rw [beq_eq_false_iff_ne]; omega
    have e32 : ((f : Int) % 128 == 32) = false := by rw [beq_eq_false_iff_ne]; omega
    have e34 : ((f : Int) % 128 == 34) = false := by rw [beq_eq_false_iff_ne]; omega
    by_cases h2 : f % 128 ≤ 34
    · have d2 : decide ((f : Int) % 128 ≤ 34) = true := decide_eq_true (by omega)
      clear h1 h2 hno hk0 hk2 hk32 hk34
      go_enter Tryz.func37, Tryz.ntmps37
      go_wp2
      go_ret
      exact ⟨rfl, Below.refl _ _⟩
    · have d2 : decide ((f : Int) % 128 ≤ 34) = false := decide_eq_false (by omega)
      clear h1 h2 hno hk0 hk2 hk32 hk34
      go_enter Tryz.func37, Tryz.ntmps37
      go_wp2
      go_ret
      exact ⟨rfl, Below.refl _ _⟩
  · have d1 : decide ((f : Int) ≤ 418) = false := decide_eq_false (by omega)
    rw [decide_eq_false (fun h => h1 h.1)]
    clear h1
    go_enter Tryz.func37, Tryz.ntmps37
    go_wp2
    go_ret
    exact ⟨rfl, Below.refl _ _⟩
/-- The rank of flags. -/
def Prm.rankN (f : Nat) : Nat := if Prm.flagsB f = true then f / 128 else 0
set_option maxHeartbeats 1000000 in
set_option maxRecDepth 100000 in
theorem prRank_c (p : Prm.Pr) (hf : p.flags < 4294967296) (w : World) : Calls Tryz.prog 18 #[prV p] w (Ret (.int .i64 (Prm.rankN p.flags : Nat)) w) := by
  have X0 := RowAt.new w (prC p).toArray 28
  have hB := below_alloc w (.cells (prC p).toArray 28)
  have x0 := X0.cell (i := 0) rfl
  have x1 := X0.cell (i := 1) rfl
  have x2 := X0.cell (i := 2) rfl
  have x3 := X0.cell (i := 3) rfl
  have x4 := X0.cell (i := 4) rfl
  have x5 := X0.cell (i := 5) rfl
  have x6 := X0.cell (i := 6) rfl
  have x7 := X0.cell (i := 7) rfl
  have x8 := X0.cell (i := 8) rfl
  have x9 := X0.cell (i := 9) rfl
  have x10 := X0.cell (i := 10) rfl
  have hc := prFlags_c p hf (w.alloc (.cells (prC p).toArray 28))
  have hd : ((p.flags : Int).tdiv 128) = ((p.flags / 128 : Nat) : Int) := by rw [Int.tdiv_eq_ediv_of_nonneg (by omega)]; omega
  have hw : IntKind.i64.wrap ((p.flags : Int) / 128) = ((p.flags / 128 : Nat) : Int) := by rw [IntKind.wrap_i64]; omega
  unfold Prm.rankN
  cases hh : Prm.flagsB p.flags with
  | true =>
    rw [hh] at hc
    clear hh
    go_enter Tryz.func18, Tryz.ntmps18
    go_wp2_with (go_at_call 36; refine hc.mono ?_; rintro en w1 ⟨rfl, hb1⟩; have y0 := (X0.below hb1).cell (i := 0) rfl)
    go_ret
    exact ⟨retI (by first | omega | (rw [if_pos rfl]; omega)), below_up hB hb1⟩
  | false =>
    rw [hh] at hc
    clear hh
    go_enter Tryz.func18, Tryz.ntmps18
    go_wp2_with (go_at_call 36; refine hc.mono ?_; rintro en w1 ⟨rfl, hb1⟩; have y0 := (X0.below hb1).cell (i := 0) rfl)
    go_ret
    exact ⟨rfl, below_up hB hb1⟩
set_option maxHeartbeats 1000000 in
set_option maxRecDepth 100000 in
theorem rRank_c (p : Prm.Pr) (hf : p.flags < 4294967296) (w : World) : Calls Tryz.prog 19 #[prV p] w (Ret (.int .i64 (Prm.rankN p.flags : Nat)) w) := by
  have X0 := RowAt.new w (prC p).toArray 28
  have hB := below_alloc w (.cells (prC p).toArray 28)
  have x0 := X0.cell (i := 0) rfl
  have x1 := X0.cell (i := 1) rfl
  have x2 := X0.cell (i := 2) rfl
  have x3 := X0.cell (i := 3) rfl
  have x4 := X0.cell (i := 4) rfl
  have x5 := X0.cell (i := 5) rfl
  have x6 := X0.cell (i := 6) rfl
  have x7 := X0.cell (i := 7) rfl
  have x8 := X0.cell (i := 8) rfl
  have x9 := X0.cell (i := 9) rfl
  have x10 := X0.cell (i := 10) rfl
  have hc := rFlagsRight_c p.flags hf (w.alloc (.cells (prC p).toArray 28))
  have hd : ((p.flags : Int).tdiv 128) = ((p.flags / 128 : Nat) : Int) := by rw [Int.tdiv_eq_ediv_of_nonneg (by omega)]; omega
  have hw : IntKind.i64.wrap ((p.flags : Int) / 128) = ((p.flags / 128 : Nat) : Int) := by rw [IntKind.wrap_i64]; omega
  unfold Prm.rankN
  cases hh : Prm.flagsB p.flags with
  | true =>
    rw [hh] at hc
    clear hh
    go_enter Tryz.func19, Tryz.ntmps19
    go_wp2_with (go_at_call 37; refine hc.mono ?_; rintro en w1 ⟨rfl, hb1⟩; have y0 := (X0.below hb1).cell (i := 0) rfl)
    go_ret
    exact ⟨retI (by first | omega | (rw [if_pos rfl]; omega)), below_up hB hb1⟩
  | false =>
    rw [hh] at hc
    clear hh
    go_enter Tryz.func19, Tryz.ntmps19
    go_wp2_with (go_at_call 37; refine hc.mono ?_; rintro en w1 ⟨rfl, hb1⟩; have y0 := (X0.below hb1).cell (i := 0) rfl)
    go_ret
    exact ⟨rfl, below_up hB hb1⟩
set_option maxHeartbeats 1000000 in
set_option maxRecDepth 100000 in
theorem prExpires_c (p : Prm.Pr) (w : World) : Calls Tryz.prog 20 #[prV p] w (Ret (.int .u64 (Clk.addF p.time p.life)) w) := by
  have X0 := RowAt.new w (prC p).toArray 28
  have hB := below_alloc w (.cells (prC p).toArray 28)
  have x8 := X0.cell (i := 8) rfl
  have x10 := X0.cell (i := 10) rfl
  have hc := ckadd_c (p.time : Int) (p.life : Int) (w.alloc (.cells (prC p).toArray 28)) (by omega) (by omega)
  go_enter Tryz.func20, Tryz.ntmps20
  go_wp2_with (go_at_call 38; refine hc.mono ?_; rintro en w1 ⟨rfl, hb1⟩)
  go_ret
  exact ⟨rfl, below_up hB hb1⟩
set_option maxHeartbeats 1000000 in
set_option maxRecDepth 100000 in
theorem rExpires_c (p : Prm.Pr) (w : World) : Calls Tryz.prog 21 #[prV p] w (Ret (.int .u64 (Clk.addF p.time p.life)) w) := by
  have X0 := RowAt.new w (prC p).toArray 28
  have hB := below_alloc w (.cells (prC p).toArray 28)
  have x8 := X0.cell (i := 8) rfl
  have x10 := X0.cell (i := 10) rfl
  have hc := ckaddR_c (p.time : Int) (p.life : Int) (w.alloc (.cells (prC p).toArray 28)) (by omega) (by omega)
  go_enter Tryz.func21, Tryz.ntmps21
  go_wp2_with (go_at_call 39; refine hc.mono ?_; rintro en w1 ⟨rfl, rfl⟩)
  go_ret
  exact ⟨rfl, hB⟩
set_option maxHeartbeats 1000000 in
set_option maxRecDepth 100000 in
theorem rName_c (p : Prm.Pr) (w : World) : Calls Tryz.prog 10 #[prV p] w (Ret (nmW p.srN p.srS p.time p.seq) w) := by
  have X0 := RowAt.new w (prC p).toArray 28
  have hB := below_alloc w (.cells (prC p).toArray 28)
  have x4 := X0.cell (i := 4) rfl
  have x5 := X0.cell (i := 5) rfl
  have x8 := X0.cell (i := 8) rfl
  have x9 := X0.cell (i := 9) rfl
  have X1 := RowAt.new (w.alloc (.cells (prC p).toArray 28)) #[.int .u32 0, .int .u32 0, .int .u64 0, .int .u32 0] 32
  rw [World.size_alloc] at X1
  have f0 := X1.fz 0
  have f1 := X1.fz 1
  have f2 := X1.fz 2
  have f3 := X1.fz 3
  go_enter Tryz.func10, Tryz.ntmps10
  go_wp2
  have hZ := RowAt.new (w.alloc (.cells (prC p).toArray 28)) #[.int .u32 p.srN, .int .u32 p.srS, .int .u64 p.time, .int .u32 p.seq] 32
  rw [World.size_alloc] at hZ
  have g0 := RowAt.cell hZ (i := 0) (v := .int .u32 p.srN) rfl
  have g1 := RowAt.cell hZ (i := 1) (v := .int .u32 p.srS) rfl
  have g2 := RowAt.cell hZ (i := 2) (v := .int .u64 p.time) rfl
  have g3 := RowAt.cell hZ (i := 3) (v := .int .u32 p.seq) rfl
  refine bodyPost_ret (v := (nmW p.srN p.srS p.time p.seq)) (by simp [results, Tryz.results10, go_sem, g0, g1, g2, g3]) rfl ?_
  exact ⟨rfl, hB.alloc hB.size _⟩
theorem u32_at {w : World} {a : Option Addr} {c : Nat} {l : List Nat} (h : Sl w 1 (.slice a l.length c) l.length (l.map fun q : Nat => Value.int .u32 q)) {k : Nat} (hk : k < l.length) : ∃ b off, a = some ⟨b, off, none⟩ ∧ w.cell? ⟨b, off + k, none⟩ = some (.int .u32 l[k]) := by
  obtain ⟨b, off, e, h1⟩ := h.cellAt (k := k) (by omega) (by omega)
  exact ⟨b, off, e, by rw [h1, List.getElem?_map, List.getElem?_eq_getElem hk]; rfl⟩
theorem Prm.take_at {l : List Nat} {k : Nat} (hk : k < l.length) : l.take (k + 1) = l.take k ++ [l[k]] := List.take_succ_eq_append_getElem hk
set_option maxHeartbeats 2000000 in
set_option maxRecDepth 100000 in
theorem prFlagsOf_c (r : Int) (hr : -9223372036854775808 ≤ r ∧ r ≤ 9223372036854775807) (l : List Nat) (v : Value) (w : World) (hv : Sl w 1 v l.length (l.map fun q : Nat => Value.int .u32 q)) (hl : ∀ q ∈ l, q < 4294967296) : Calls Tryz.prog 16 #[.int .i64 r, v] w (Ret (.int .u32 (Prm.flagsN r l : Nat)) w) := by
  obtain ⟨a, c, rfl⟩ := hv.len
  have HV := Lib.hid hv
  have HL := Lib.hid hl
  have hw0 : ∀ k : Nat, k < 4294967296 → IntKind.u32.wrap (k : Int) = (k : Int) := fun k hk => by rw [IntKind.wrap_u32]; omega
  have hmx := hv.n_max
  obtain ⟨n, hn⟩ : ∃ n, l.length = n := ⟨_, rfl⟩
  have HN := Lib.hid hn
  rw [hn] at HV hmx ⊢
  clear hv hl hn
  have hst : ∃ B : Nat, Prm.baseN r = B := ⟨_, rfl⟩
  by_cases h0 : 0 ≤ r
  · have d0 : decide (0 ≤ r) = true := decide_eq_true h0
    have d01 : decide (r ≥ 0) = true := d0
    by_cases h2 : r ≤ 2
    · have d2 : decide (r ≤ 2) = true := decide_eq_true h2
      have hw : IntKind.u32.wrap r = r := by rw [IntKind.wrap_u32]; omega
      have hw2 : IntKind.u32.wrap (r * 128) = r * 128 := by rw [IntKind.wrap_u32]; omega
      have hw3 : IntKind.i64.wrap (128 * r) = 128 * r := by rw [IntKind.wrap_i64]; omega
      have hw4 : IntKind.u32.wrap (128 * r) = 128 * r := by rw [IntKind.wrap_u32]; omega
      have HBS := Lib.hid (show ((Prm.baseN r : Nat) : Int) = r * 128 by unfold Prm.baseN; rw [if_pos ⟨h0, h2⟩]; omega)
      clear h0 h2
      go_enter Tryz.func16, Tryz.ntmps16
      go_wp2
      go_loopw [4, 18] (fun vn vi wr => ∃ k : Nat, vi = .int .i64 k ∧ k ≤ n ∧ vn = .int .u32 (Prm.flagsN r (l.take k) : Nat) ∧ Below w.heap.size w wr) (fun _ vi _ => n - (intOf vi).toNat)
      case atStart => exact ⟨0, rfl, Nat.zero_le _, by have h := HBS.out; unfold Prm.flagsN; simp only [List.take_zero, List.not_mem_nil, if_false, Nat.add_zero]; rw [h], Below.refl _ _⟩
      case round =>
        obtain ⟨k, rfl, hk, rfl, hB⟩ := hrel
        by_cases hlt : k < n
        · have hkl : k < l.length := by rw [HN.out]; exact hlt
          have hv := HV.out.up hB
          rw [← HN.out] at hv
          obtain ⟨b, off, hab, hc⟩ := u32_at hv hkl
          subst hab
          rw [HN.out] at hv
          have hT := Lib.hid (Prm.take_at hkl)
          have hq := HL.out _ (List.getElem_mem hkl)
          have hfl := Prm.flagsN_lt r (l.take k)
          have hor := Prm.or32 (Prm.flagsN r (l.take k)) l[k] (by omega) hq
          have HQ2 := Lib.hid (Prm.flagsN_or r (l.take k) l[k])
          have HQ3 := Lib.hid (Prm.flagsN_no r (l.take k) l[k])
          generalize l[k] = q at *
          obtain ⟨G, hG⟩ : ∃ G, Prm.flagsN r (l.take k) = G := ⟨_, rfl⟩
          rw [hG] at hor hfl HQ2 HQ3 ⊢
          have hkn : (k : Int) < (n : Int) := by omega
          by_cases h2 : q = 2
          · subst h2
            have HO := Lib.hid (HQ2.out (.inl rfl))
            have hor : bits .or .u32 (G : Int) 2 = ((G ||| 2 : Nat) : Int) := hor
            clear hG hv
            go_wp2
            go_roundw
            case rel => exact ⟨k + 1, by go_num, by omega, by rw [hT.out, ← HO.out], hB⟩
            case measure => simp [intOf]; omega
          · have e2 : ((q : Int) == 2) = false := by rw [beq_eq_false_iff_ne]; omega
            by_cases h3 : q = 32
            · subst h3
              have HO := Lib.hid (HQ2.out (.inr rfl))
              have hor : bits .or .u32 (G : Int) 32 = ((G ||| 32 : Nat) : Int) := hor
              clear hG hv h2
              go_wp2
              go_roundw
              case rel => exact ⟨k + 1, by go_num, by omega, by rw [hT.out, ← HO.out], hB⟩
              case measure => simp [intOf]; omega
            · have e3 : ((q : Int) == 32) = false := by rw [beq_eq_false_iff_ne]; omega
              have HO := Lib.hid (HQ3.out h2 h3)
              clear hG hv h2 h3 hor
              go_wp2
              go_roundw
              case rel => exact ⟨k + 1, by go_num, by omega, by rw [hT.out, HO.out], hB⟩
              case measure => simp [intOf]; omega
        · obtain rfl : k = n := by omega
          have HA := Lib.hid (show l.take k = l from List.take_of_length_le (by rw [HN.out]; exact Nat.le_refl _))
          go_wp2
          go_ret
          exact ⟨by rw [HA.out]; rfl, hB⟩
    · have d2 : decide (r ≤ 2) = false := decide_eq_false h2
      have HBS := Lib.hid (show ((Prm.baseN r : Nat) : Int) = 0 by unfold Prm.baseN; rw [if_neg (fun h => h2 h.2)]; rfl)
      clear h0 h2
      go_enter Tryz.func16, Tryz.ntmps16
      go_wp2
      go_loopw [4, 18] (fun vn vi wr => ∃ k : Nat, vi = .int .i64 k ∧ k ≤ n ∧ vn = .int .u32 (Prm.flagsN r (l.take k) : Nat) ∧ Below w.heap.size w wr) (fun _ vi _ => n - (intOf vi).toNat)
      case atStart => exact ⟨0, rfl, Nat.zero_le _, by have h := HBS.out; unfold Prm.flagsN; simp only [List.take_zero, List.not_mem_nil, if_false, Nat.add_zero]; rw [h], Below.refl _ _⟩
      case round =>
        obtain ⟨k, rfl, hk, rfl, hB⟩ := hrel
        by_cases hlt : k < n
        · have hkl : k < l.length := by rw [HN.out]; exact hlt
          have hv := HV.out.up hB
          rw [← HN.out] at hv
          obtain ⟨b, off, hab, hc⟩ := u32_at hv hkl
          subst hab
          rw [HN.out] at hv
          have hT := Lib.hid (Prm.take_at hkl)
          have hq := HL.out _ (List.getElem_mem hkl)
          have hfl := Prm.flagsN_lt r (l.take k)
          have hor := Prm.or32 (Prm.flagsN r (l.take k)) l[k] (by omega) hq
          have HQ2 := Lib.hid (Prm.flagsN_or r (l.take k) l[k])
          have HQ3 := Lib.hid (Prm.flagsN_no r (l.take k) l[k])
          generalize l[k] = q at *
          obtain ⟨G, hG⟩ : ∃ G, Prm.flagsN r (l.take k) = G := ⟨_, rfl⟩
          rw [hG] at hor hfl HQ2 HQ3 ⊢
          have hkn : (k : Int) < (n : Int) := by omega
          by_cases h2 : q = 2
          · subst h2
            have HO := Lib.hid (HQ2.out (.inl rfl))
            have hor : bits .or .u32 (G : Int) 2 = ((G ||| 2 : Nat) : Int) := hor
            clear hG hv
            go_wp2
            go_roundw
            case rel => exact ⟨k + 1, by go_num, by omega, by rw [hT.out, ← HO.out], hB⟩
            case measure => simp [intOf]; omega
          · have e2 : ((q : Int) == 2) = false := by rw [beq_eq_false_iff_ne]; omega
            by_cases h3 : q = 32
            · subst h3
              have HO := Lib.hid (HQ2.out (.inr rfl))
              have hor : bits .or .u32 (G : Int) 32 = ((G ||| 32 : Nat) : Int) := hor
              clear hG hv h2
              go_wp2
              go_roundw
              case rel => exact ⟨k + 1, by go_num, by omega, by rw [hT.out, ← HO.out], hB⟩
              case measure => simp [intOf]; omega
            · have e3 : ((q : Int) == 32) = false := by rw [beq_eq_false_iff_ne]; omega
              have HO := Lib.hid (HQ3.out h2 h3)
              clear hG hv h2 h3 hor
              go_wp2
              go_roundw
              case rel => exact ⟨k + 1, by go_num, by omega, by rw [hT.out, HO.out], hB⟩
              case measure => simp [intOf]; omega
        · obtain rfl : k = n := by omega
          have HA := Lib.hid (show l.take k = l from List.take_of_length_le (by rw [HN.out]; exact Nat.le_refl _))
          go_wp2
          go_ret
          exact ⟨by rw [HA.out]; rfl, hB⟩
  · have d0 : decide (0 ≤ r) = false := decide_eq_false h0
    have d01 : decide (r ≥ 0) = false := d0
    have HBS := Lib.hid (show ((Prm.baseN r : Nat) : Int) = 0 by unfold Prm.baseN; rw [if_neg (fun h => h0 h.1)]; rfl)
    clear h0
    go_enter Tryz.func16, Tryz.ntmps16
    go_wp2
    go_loopw [4, 18] (fun vn vi wr => ∃ k : Nat, vi = .int .i64 k ∧ k ≤ n ∧ vn = .int .u32 (Prm.flagsN r (l.take k) : Nat) ∧ Below w.heap.size w wr) (fun _ vi _ => n - (intOf vi).toNat)
    case atStart => exact ⟨0, rfl, Nat.zero_le _, by have h := HBS.out; unfold Prm.flagsN; simp only [List.take_zero, List.not_mem_nil, if_false, Nat.add_zero]; rw [h], Below.refl _ _⟩
    case round =>
      obtain ⟨k, rfl, hk, rfl, hB⟩ := hrel
      by_cases hlt : k < n
      · have hkl : k < l.length := by rw [HN.out]; exact hlt
        have hv := HV.out.up hB
        rw [← HN.out] at hv
        obtain ⟨b, off, hab, hc⟩ := u32_at hv hkl
        subst hab
        rw [HN.out] at hv
        have hT := Lib.hid (Prm.take_at hkl)
        have hq := HL.out _ (List.getElem_mem hkl)
        have hfl := Prm.flagsN_lt r (l.take k)
        have hor := Prm.or32 (Prm.flagsN r (l.take k)) l[k] (by omega) hq
        have HQ2 := Lib.hid (Prm.flagsN_or r (l.take k) l[k])
        have HQ3 := Lib.hid (Prm.flagsN_no r (l.take k) l[k])
        generalize l[k] = q at *
        obtain ⟨G, hG⟩ : ∃ G, Prm.flagsN r (l.take k) = G := ⟨_, rfl⟩
        rw [hG] at hor hfl HQ2 HQ3 ⊢
        have hkn : (k : Int) < (n : Int) := by omega
        by_cases h2 : q = 2
        · subst h2
          have HO := Lib.hid (HQ2.out (.inl rfl))
          have hor : bits .or .u32 (G : Int) 2 = ((G ||| 2 : Nat) : Int) := hor
          clear hG hv
          go_wp2
          go_roundw
          case rel => exact ⟨k + 1, by go_num, by omega, by rw [hT.out, ← HO.out], hB⟩
          case measure => simp [intOf]; omega
        · have e2 : ((q : Int) == 2) = false := by rw [beq_eq_false_iff_ne]; omega
          by_cases h3 : q = 32
          · subst h3
            have HO := Lib.hid (HQ2.out (.inr rfl))
            have hor : bits .or .u32 (G : Int) 32 = ((G ||| 32 : Nat) : Int) := hor
            clear hG hv h2
            go_wp2
            go_roundw
            case rel => exact ⟨k + 1, by go_num, by omega, by rw [hT.out, ← HO.out], hB⟩
            case measure => simp [intOf]; omega
          · have e3 : ((q : Int) == 32) = false := by rw [beq_eq_false_iff_ne]; omega
            have HO := Lib.hid (HQ3.out h2 h3)
            clear hG hv h2 h3 hor
            go_wp2
            go_roundw
            case rel => exact ⟨k + 1, by go_num, by omega, by rw [hT.out, HO.out], hB⟩
            case measure => simp [intOf]; omega
      · obtain rfl : k = n := by omega
        have HA := Lib.hid (show l.take k = l from List.take_of_length_le (by rw [HN.out]; exact Nat.le_refl _))
        go_wp2
        go_ret
        exact ⟨by rw [HA.out]; rfl, hB⟩
end Go.Proofs.YtpkonagjnfphkaaGreatDoor
