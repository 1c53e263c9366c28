/-
  Contracts of contact's small functions: Check at whatever contact, Compare, Or, order, num, met, none, New, len, own, Len.
-/
import Derived.Test.YtgbpdchdcbnoaaaConR
import Derived.Test.YtgbpdchdcbnoaaaIterB
namespace Go.Proofs.Ytgbpdchdcbnoaaa
open Go.RowKit Vol
set_option linter.unusedSimpArgs false
set_option linter.unusedVariables false

/-- A contact's fields are numbers of their types. -/
structure Vol.Ct.Wf (c : Ct) : Prop where
  f1 : 0 ≤ c.from_
  f2 : c.from_ ≤ 4294967295
  t1 : 0 ≤ c.to
  t2 : c.to ≤ 4294967295
  a1 : 0 ≤ c.a
  b1 : 0 ≤ c.b
  r1 : 0 ≤ c.r
theorem slC : SlT Try.prog 38 27 5 32 := SlT.mk' Try.underlying38 (z := .agg #[.int .u32 0, .int .u32 0, .int .u64 0, .int .u64 0, .int .u64 0]) (by kernel_rfl) rfl (by decide)
theorem slL : SlT Try.prog 65 27 5 32 := SlT.mk' Try.underlying65 (z := .agg #[.int .u32 0, .int .u32 0, .int .u64 0, .int .u64 0, .int .u64 0]) (by kernel_rfl) rfl (by decide)

set_option maxHeartbeats 4000000 in
set_option maxRecDepth 100000 in
theorem ctCheckG_c (c : Ct) (h : c.Wf) (w : World) : Calls Try.prog 8 #[ctV c] w (Ret (.int .i64 (if okB c then 0 else 2)) w) := by
  obtain ⟨f1, f2, t1, t2, a1, b1, r1⟩ := h
  have hB := below_alloc w (.cells (ctC c).toArray 27)
  obtain ⟨R, hR⟩ : ∃ R : Int, R = (if okB c then 0 else 2) := ⟨_, rfl⟩
  rw [← hR]
  have HR := Lib.hid hR
  clear hR
  obtain ⟨b4, e4⟩ : ∃ b, Clk.rightB c.a c.b = b := ⟨_, rfl⟩
  by_cases h1 : c.from_ = 0
  · skip
    have eh1 : (c.from_ == 0) = true := by rw [beq_iff_eq]; exact h1
    have hv : R = 2 := by rw [HR.out]; simp [okB, *] <;> (intros; omega)
    clear HR; subst hv
    go_enter Try.func8, Try.ntmps8
    go_wp2_with (go_at_call 25; refine (right_c _ _ _).mono ?_; rw [e4]; rintro en w1 ⟨rfl, hb⟩; have g := fun (j : Nat) (u : Value) (h : (w.alloc (.cells (ctC c).toArray 27)).cell? ⟨w.heap.size, j, none⟩ = some u) => cell_up hb h; have g2 := g 2 (.int .u64 c.a) (by simp [go_sem]); have g3 := g 3 (.int .u64 c.b) (by simp [go_sem]); have g4 := g 4 (.int .u64 c.r) (by simp [go_sem]); clear g)
    all_goals first
      | (exfalso; omega)
      | (go_ret; first | exact ⟨rfl, below_up hB hb⟩ | exact ⟨rfl, hB⟩)
  · skip
    by_cases h2 : c.to = 0
    · skip
      have eh1 : (c.from_ == 0) = false := by rw [beq_eq_false_iff_ne]; exact h1
      have eh2 : (c.to == 0) = true := by rw [beq_iff_eq]; exact h2
      have hv : R = 2 := by rw [HR.out]; simp [okB, *] <;> (intros; omega)
      clear HR; subst hv
      go_enter Try.func8, Try.ntmps8
      go_wp2_with (go_at_call 25; refine (right_c _ _ _).mono ?_; rw [e4]; rintro en w1 ⟨rfl, hb⟩; have g := fun (j : Nat) (u : Value) (h : (w.alloc (.cells (ctC c).toArray 27)).cell? ⟨w.heap.size, j, none⟩ = some u) => cell_up hb h; have g2 := g 2 (.int .u64 c.a) (by simp [go_sem]); have g3 := g 3 (.int .u64 c.b) (by simp [go_sem]); have g4 := g 4 (.int .u64 c.r) (by simp [go_sem]); clear g)
      all_goals first
        | (exfalso; omega)
        | (go_ret; first | exact ⟨rfl, below_up hB hb⟩ | exact ⟨rfl, hB⟩)
    · skip
      by_cases h3 : c.from_ = c.to
      · skip
        have eh1 : (c.from_ == 0) = false := by rw [beq_eq_false_iff_ne]; exact h1
        have eh2 : (c.to == 0) = false := by rw [beq_eq_false_iff_ne]; exact h2
        have eh3 : (c.from_ == c.to) = true := by rw [beq_iff_eq]; exact h3
        have hv : R = 2 := by rw [HR.out]; simp [okB, *] <;> (intros; omega)
        clear HR; subst hv
        clear h3
        go_enter Try.func8, Try.ntmps8
        go_wp2_with (go_at_call 25; refine (right_c _ _ _).mono ?_; rw [e4]; rintro en w1 ⟨rfl, hb⟩; have g := fun (j : Nat) (u : Value) (h : (w.alloc (.cells (ctC c).toArray 27)).cell? ⟨w.heap.size, j, none⟩ = some u) => cell_up hb h; have g2 := g 2 (.int .u64 c.a) (by simp [go_sem]); have g3 := g 3 (.int .u64 c.b) (by simp [go_sem]); have g4 := g 4 (.int .u64 c.r) (by simp [go_sem]); clear g)
        all_goals first
          | (exfalso; omega)
          | (go_ret; first | exact ⟨rfl, below_up hB hb⟩ | exact ⟨rfl, hB⟩)
      · skip
        cases b4
        · skip
          have eh1 : (c.from_ == 0) = false := by rw [beq_eq_false_iff_ne]; exact h1
          have eh2 : (c.to == 0) = false := by rw [beq_eq_false_iff_ne]; exact h2
          have eh3 : (c.from_ == c.to) = false := by rw [beq_eq_false_iff_ne]; exact h3
          have hv : R = 2 := by rw [HR.out]; simp [okB, *] <;> (intros; omega)
          clear HR; subst hv
          go_enter Try.func8, Try.ntmps8
          go_wp2_with (go_at_call 25; refine (right_c _ _ _).mono ?_; rw [e4]; rintro en w1 ⟨rfl, hb⟩; have g := fun (j : Nat) (u : Value) (h : (w.alloc (.cells (ctC c).toArray 27)).cell? ⟨w.heap.size, j, none⟩ = some u) => cell_up hb h; have g2 := g 2 (.int .u64 c.a) (by simp [go_sem]); have g3 := g 3 (.int .u64 c.b) (by simp [go_sem]); have g4 := g 4 (.int .u64 c.r) (by simp [go_sem]); clear g)
          all_goals first
            | (exfalso; omega)
            | (go_ret; first | exact ⟨rfl, below_up hB hb⟩ | exact ⟨rfl, hB⟩)
        · skip
          by_cases h5 : c.a = c.b
          · skip
            have eh1 : (c.from_ == 0) = false := by rw [beq_eq_false_iff_ne]; exact h1
            have eh2 : (c.to == 0) = false := by rw [beq_eq_false_iff_ne]; exact h2
            have eh3 : (c.from_ == c.to) = false := by rw [beq_eq_false_iff_ne]; exact h3
            have hab := (Clk.rightB_iff _ _).1 e4
            have eh5 : (c.a == c.b) = true := by rw [beq_iff_eq]; exact h5
            have hv : R = 2 := by rw [HR.out]; simp [okB, *] <;> (intros; omega)
            clear HR; subst hv
            clear h5
            go_enter Try.func8, Try.ntmps8
            go_wp2_with (go_at_call 25; refine (right_c _ _ _).mono ?_; rw [e4]; rintro en w1 ⟨rfl, hb⟩; have g := fun (j : Nat) (u : Value) (h : (w.alloc (.cells (ctC c).toArray 27)).cell? ⟨w.heap.size, j, none⟩ = some u) => cell_up hb h; have g2 := g 2 (.int .u64 c.a) (by simp [go_sem]); have g3 := g 3 (.int .u64 c.b) (by simp [go_sem]); have g4 := g 4 (.int .u64 c.r) (by simp [go_sem]); clear g)
            all_goals first
              | (exfalso; omega)
              | (go_ret; first | exact ⟨rfl, below_up hB hb⟩ | exact ⟨rfl, hB⟩)
          · skip
            by_cases h6 : c.r < 1
            · skip
              have eh1 : (c.from_ == 0) = false := by rw [beq_eq_false_iff_ne]; exact h1
              have eh2 : (c.to == 0) = false := by rw [beq_eq_false_iff_ne]; exact h2
              have eh3 : (c.from_ == c.to) = false := by rw [beq_eq_false_iff_ne]; exact h3
              have hab := (Clk.rightB_iff _ _).1 e4
              have eh5 : (c.a == c.b) = false := by rw [beq_eq_false_iff_ne]; exact h5
              have hv : R = 2 := by rw [HR.out]; simp [okB, *] <;> (intros; omega)
              clear HR; subst hv
              go_enter Try.func8, Try.ntmps8
              go_wp2_with (go_at_call 25; refine (right_c _ _ _).mono ?_; rw [e4]; rintro en w1 ⟨rfl, hb⟩; have g := fun (j : Nat) (u : Value) (h : (w.alloc (.cells (ctC c).toArray 27)).cell? ⟨w.heap.size, j, none⟩ = some u) => cell_up hb h; have g2 := g 2 (.int .u64 c.a) (by simp [go_sem]); have g3 := g 3 (.int .u64 c.b) (by simp [go_sem]); have g4 := g 4 (.int .u64 c.r) (by simp [go_sem]); clear g)
              all_goals first
                | (exfalso; omega)
                | (go_ret; first | exact ⟨rfl, below_up hB hb⟩ | exact ⟨rfl, hB⟩)
            · skip
              by_cases h7 : (4294967295 : Int) < c.r
              · skip
                have eh1 : (c.from_ == 0) = false := by rw [beq_eq_false_iff_ne]; exact h1
                have eh2 : (c.to == 0) = false := by rw [beq_eq_false_iff_ne]; exact h2
                have eh3 : (c.from_ == c.to) = false := by rw [beq_eq_false_iff_ne]; exact h3
                have hab := (Clk.rightB_iff _ _).1 e4
                have eh5 : (c.a == c.b) = false := by rw [beq_eq_false_iff_ne]; exact h5
                have hv : R = 2 := by rw [HR.out]; simp [okB, *] <;> (intros; omega)
                clear HR; subst hv
                go_enter Try.func8, Try.ntmps8
                go_wp2_with (go_at_call 25; refine (right_c _ _ _).mono ?_; rw [e4]; rintro en w1 ⟨rfl, hb⟩; have g := fun (j : Nat) (u : Value) (h : (w.alloc (.cells (ctC c).toArray 27)).cell? ⟨w.heap.size, j, none⟩ = some u) => cell_up hb h; have g2 := g 2 (.int .u64 c.a) (by simp [go_sem]); have g3 := g 3 (.int .u64 c.b) (by simp [go_sem]); have g4 := g 4 (.int .u64 c.r) (by simp [go_sem]); clear g)
                all_goals first
                  | (exfalso; omega)
                  | (go_ret; first | exact ⟨rfl, below_up hB hb⟩ | exact ⟨rfl, hB⟩)
              · skip
                have eh1 : (c.from_ == 0) = false := by rw [beq_eq_false_iff_ne]; exact h1
                have eh2 : (c.to == 0) = false := by rw [beq_eq_false_iff_ne]; exact h2
                have eh3 : (c.from_ == c.to) = false := by rw [beq_eq_false_iff_ne]; exact h3
                have hab := (Clk.rightB_iff _ _).1 e4
                have eh5 : (c.a == c.b) = false := by rw [beq_eq_false_iff_ne]; exact h5
                have hv : R = 0 := by rw [HR.out]; simp [okB, *] <;> (intros; omega)
                clear HR; subst hv
                go_enter Try.func8, Try.ntmps8
                go_wp2_with (go_at_call 25; refine (right_c _ _ _).mono ?_; rw [e4]; rintro en w1 ⟨rfl, hb⟩; have g := fun (j : Nat) (u : Value) (h : (w.alloc (.cells (ctC c).toArray 27)).cell? ⟨w.heap.size, j, none⟩ = some u) => cell_up hb h; have g2 := g 2 (.int .u64 c.a) (by simp [go_sem]); have g3 := g 3 (.int .u64 c.b) (by simp [go_sem]); have g4 := g 4 (.int .u64 c.r) (by simp [go_sem]); clear g)
                all_goals first
                  | (exfalso; omega)
                  | (go_ret; first | exact ⟨rfl, below_up hB hb⟩ | exact ⟨rfl, hB⟩)

/-- Which of two numbers is the lesser one. -/
def Vol.cmpF (x y : Int) : Int := if x < y then -1 else if y < x then 1 else 0

theorem isNaN_u32 (x : Int) (w : World) : Calls Try.prog 77 #[.int .u32 x] w fun en w' => en = .returned (.bool false) ∧ w = w' := by
  go_enter Try.func77, Try.ntmps77
  go_wp2
  go_ret
  exact ⟨rfl, rfl⟩
theorem compare_u32 (x y : Int) (w : World) : Calls Try.prog 63 #[.int .u32 x, .int .u32 y] w fun en w' => en = .returned (.int .i64 (cmpF x y)) ∧ w = w' := by
  unfold cmpF
  by_cases h1 : x < y
  · rw [if_pos h1]
    go_enter Try.func63, Try.ntmps63
    go_wp2_with (go_at_call 77; refine (isNaN_u32 _ _).mono ?_; rintro en w1 ⟨rfl, rfl⟩)
    go_ret
    exact ⟨rfl, rfl⟩
  · rw [if_neg h1]
    by_cases h2 : y < x
    · rw [if_pos h2]
      go_enter Try.func63, Try.ntmps63
      go_wp2_with (go_at_call 77; refine (isNaN_u32 _ _).mono ?_; rintro en w1 ⟨rfl, rfl⟩)
      go_ret
      exact ⟨rfl, rfl⟩
    · rw [if_neg h2]
      go_enter Try.func63, Try.ntmps63
      go_wp2_with (go_at_call 77; refine (isNaN_u32 _ _).mono ?_; rintro en w1 ⟨rfl, rfl⟩)
      go_ret
      exact ⟨rfl, rfl⟩

theorem isNaN_u64 (x : Int) (w : World) : Calls Try.prog 78 #[.int .u64 x] w fun en w' => en = .returned (.bool false) ∧ w = w' := by
  go_enter Try.func78, Try.ntmps78
  go_wp2
  go_ret
  exact ⟨rfl, rfl⟩
theorem compare_u64 (x y : Int) (w : World) : Calls Try.prog 64 #[.int .u64 x, .int .u64 y] w fun en w' => en = .returned (.int .i64 (cmpF x y)) ∧ w = w' := by
  unfold cmpF
  by_cases h1 : x < y
  · rw [if_pos h1]
    go_enter Try.func64, Try.ntmps64
    go_wp2_with (go_at_call 78; refine (isNaN_u64 _ _).mono ?_; rintro en w1 ⟨rfl, rfl⟩)
    go_ret
    exact ⟨rfl, rfl⟩
  · rw [if_neg h1]
    by_cases h2 : y < x
    · rw [if_pos h2]
      go_enter Try.func64, Try.ntmps64
      go_wp2_with (go_at_call 78; refine (isNaN_u64 _ _).mono ?_; rintro en w1 ⟨rfl, rfl⟩)
      go_ret
      exact ⟨rfl, rfl⟩
    · rw [if_neg h2]
      go_enter Try.func64, Try.ntmps64
      go_wp2_with (go_at_call 78; refine (isNaN_u64 _ _).mono ?_; rintro en w1 ⟨rfl, rfl⟩)
      go_ret
      exact ⟨rfl, rfl⟩

/-- The first that is not 0. -/
def Vol.orF (x y z : Int) : Int := if x = 0 then if y = 0 then z else y else x
set_option maxRecDepth 100000 in
theorem or_c (x y z : Int) (v : Value) (w : World) (hv : Sl w 1 v 3 [.int .i64 x, .int .i64 y, .int .i64 z]) : Calls Try.prog 62 #[v] w fun en w' => en = .returned (.int .i64 (orF x y z)) ∧ w = w' := by
  obtain ⟨a, c, rfl⟩ := hv.len
  obtain ⟨b, off, rfl, h0⟩ := hv.cellAt (k := 0) (by decide) (by decide)
  obtain ⟨b', off', e, h1⟩ := hv.cellAt (k := 1) (by decide) (by decide)
  obtain ⟨rfl, rfl⟩ : b' = b ∧ off' = off := by simpa using e.symm
  obtain ⟨b'', off'', e, h2⟩ := hv.cellAt (k := 2) (by decide) (by decide)
  obtain ⟨rfl, rfl⟩ : b'' = b' ∧ off'' = off' := by simpa using e.symm
  simp only [List.getElem?_cons_zero, List.getElem?_cons_succ, Nat.add_zero] at h0 h1 h2
  obtain ⟨R, hR⟩ : ∃ R : Int, R = orF x y z := ⟨_, rfl⟩
  rw [← hR]
  unfold orF at hR
  by_cases hx : x = 0
  · rw [if_pos hx] at hR
    by_cases hy : y = 0
    · rw [if_pos hy] at hR
      by_cases hz : z = 0
      · subst hx; subst hy; subst hz; subst hR
        go_enter Try.func62, Try.ntmps62
        go_wp2
        refine wp_loop_rounds 4 ?_
        rw [rounds_succ]
        go_wp2
        rw [rounds_succ]
        go_wp2
        rw [rounds_succ]
        go_wp2
        rw [rounds_succ]
        go_wp2
        go_ret
        exact ⟨rfl, rfl⟩
      · subst hx; subst hy; subst hR
        go_enter Try.func62, Try.ntmps62
        go_wp2
        refine wp_loop_rounds 4 ?_
        rw [rounds_succ]
        go_wp2
        rw [rounds_succ]
        go_wp2
        rw [rounds_succ]
        go_wp2
        go_ret
        exact ⟨rfl, rfl⟩
    · rw [if_neg hy] at hR
      subst hx; subst hR
      go_enter Try.func62, Try.ntmps62
      go_wp2
      refine wp_loop_rounds 4 ?_
      rw [rounds_succ]
      go_wp2
      rw [rounds_succ]
      go_wp2
      go_ret
      exact ⟨rfl, rfl⟩
  · rw [if_neg hx] at hR
    subst hR
    go_enter Try.func62, Try.ntmps62
    go_wp2
    refine wp_loop_rounds 4 ?_
    rw [rounds_succ]
    go_wp2
    go_ret
    exact ⟨rfl, rfl⟩

theorem num_cc (e : Int) (w : World) : Calls Try.prog 9 #[.int .i64 e] w (fun en w' => en = .returned (.int .i64 e) ∧ w = w') := by
  go_enter Try.func9, Try.ntmps9
  go_wp2
  go_ret
  exact ⟨rfl, rfl⟩

set_option maxRecDepth 100000 in
theorem met_c (f t a b r : Int) (w : World) : Calls Try.prog 14 #[.int .u32 f, .int .u32 t, .int .u64 a, .int .u64 b, .int .u64 r] w (Ret (ctV ⟨f, t, a, b, r⟩) w) := by
  go_enter Try.func14, Try.ntmps14
  go_wp2
  exact bodyPost_ret (v := ctV ⟨f, t, a, b, r⟩) (by simp [results, Try.results14, go_sem]) rfl ⟨rfl, below_alloc _ _⟩

/-- A plan: its variable lies in block B, its contacts in the slice v. -/
structure PlanAt (w : World) (B : Nat) (v : Value) (L : List Ct) : Prop where
  var : RowAt w B #[v, .bool true] 67
  sl : Sl w 5 v L.length (L.flatMap ctC)
  ne : L.length = 0 ∨ ∀ k, v.ownBlock = some k → k ≠ B
theorem PlanAt.below {w w' : World} {B : Nat} {v : Value} {L : List Ct} (h : PlanAt w B v L) (hb : Below w.heap.size w w') : PlanAt w' B v L := ⟨h.var.below hb, h.sl.up hb, h.ne⟩

set_option maxRecDepth 100000 in
theorem pNone_c {B : Nat} {v : Value} {L : List Ct} (w : World) (h : PlanAt w B v L) : Calls Try.prog 30 #[.pointer (some ⟨B, 0, none⟩)] w fun en w' => en = .returned (.bool false) ∧ w = w' := by
  have hc := h.var.cell (i := 1) rfl
  go_enter Try.func30, Try.ntmps30
  go_wp2
  go_ret
  exact ⟨rfl, rfl⟩

set_option maxRecDepth 100000 in
theorem pNew_c (w : World) : Calls Try.prog 12 #[] w fun en w' => en = .returned (.pointer (some ⟨w.heap.size, 0, none⟩)) ∧ PlanAt w' w.heap.size (.slice none 0 0) [] ∧ Below w.heap.size w w' := by
  go_enter Try.func12, Try.ntmps12
  go_wp2
  go_ret
  exact ⟨rfl, ⟨RowAt.new _ _ _, Sl.nil _ _, .inl rfl⟩, below_alloc _ _⟩

theorem lLen_c (v : Value) (n : Nat) (cs : List Value) (w : World) (h : Sl w 5 v n cs) : Calls Try.prog 37 #[v] w fun en w' => en = .returned (.int .i64 n) ∧ w = w' := by
  obtain ⟨a, c, rfl⟩ := h.len
  go_enter Try.func37, Try.ntmps37
  go_wp2
  go_ret
  exact ⟨rfl, rfl⟩

set_option maxRecDepth 100000 in
theorem pOwn_c {B : Nat} {v : Value} {L : List Ct} (w : World) (h : PlanAt w B v L) : Calls Try.prog 41 #[.pointer (some ⟨B, 0, none⟩)] w fun en w' => en = .returned v ∧ w = w' := by
  have hc := h.var.cell (i := 0) rfl
  obtain ⟨a, c, rfl⟩ := h.sl.len
  go_enter Try.func41, Try.ntmps41
  go_wp2_with (go_at_call 30; refine (pNone_c _ h).mono ?_; rintro en w1 ⟨rfl, rfl⟩)
  go_ret
  exact ⟨rfl, rfl⟩

set_option maxRecDepth 100000 in
theorem pLen_c {B : Nat} {v : Value} {L : List Ct} (w : World) (h : PlanAt w B v L) : Calls Try.prog 15 #[.pointer (some ⟨B, 0, none⟩)] w fun en w' => en = .returned (.int .i64 L.length) ∧ w = w' := by
  go_enter Try.func15, Try.ntmps15
  go_wp2_with (first
    | (go_at_call 41; refine (pOwn_c _ h).mono ?_; rintro en w1 ⟨rfl, rfl⟩)
    | (go_at_call 37; refine (lLen_c _ _ _ _ h.sl).mono ?_; rintro en w1 ⟨rfl, rfl⟩))
  go_ret
  exact ⟨rfl, rfl⟩
end Go.Proofs.Ytgbpdchdcbnoaaa
