/-
  The contract of Room.
-/
import Derived.Test.YtbeccnlcidokmaaVolB
import Derived.Test.YtbeccnlcidokmaaFork
namespace Go.Proofs.Ytbeccnlcidokmaa
open Go.RowKit Go.Maps Vol
set_option linter.unusedSimpArgs false
set_option linter.unusedVariables false

theorem Vol.least2_le (x y : Int) : least2 x y ≤ x ∧ least2 x y ≤ y := by unfold least2; split <;> omega
theorem Vol.least2_lo {x y : Int} (hx : 0 ≤ x) (hy : 0 ≤ y) : 0 ≤ least2 x y := by unfold least2; split <;> omega
/-- What is left of a contact at a time. -/
def Vol.roomF (c : Ct) (n at_ : Int) : Int :=
  least2 (Clk.carriesF c.a c.b c.r - least2 (Clk.carriesF c.a c.b c.r) n) (Clk.carriesF (least2 (if at_ < c.a then c.a else at_) c.b) c.b c.r)

set_option maxHeartbeats 2000000 in
set_option maxRecDepth 100000 in
theorem vRoom_c {L M : Nat} {E : List (Ct × Int)} (c : Ct) (hc : c.Ok) (at_ : Int) (hat : 0 ≤ at_) (hn : 0 ≤ (lk E c).2) (w : World) (h : Led w L M E) : Calls Try.prog 14 #[.pointer (some ⟨L, 0, none⟩), ctV c, .int .u64 at_] w (Ret (.int .u64 (roomF c (lk E c).2 at_)) w) := by
  have hB := below_alloc w (.cells (ctC c).toArray 32)
  have C1 := RowAt.new w (ctC c).toArray 32
  have h1 := h.below hB
  have ha0 := hc.a0
  have hr1 := hc.r1
  go_enter Try.func14, Try.ntmps14
  go_wp2_with (first
    | (go_at_call 27; refine (ctRight_c c hc _).mono ?_; rintro en w2 ⟨rfl, hb2⟩; have h2 := h1.below hb2; have C2 := C1.below hb2; have g := fun (j : Nat) (u : Value) (h : (ctC c).toArray[j]? = some u) => C2.cell h; have g0 := g 0 _ rfl; have g1 := g 1 _ rfl; have g2 := g 2 _ rfl; have g3 := g 3 _ rfl; have g4 := g 4 _ rfl; clear g; have HB := Lib.hid (below_up hB hb2))
    | (go_at_call 28; refine (carries_c _ _ _ _ ha0 (by omega)).mono ?_; rintro en w3 ⟨rfl, hb3⟩; have h3 := h2.below hb3; have C3 := C2.below hb3; replace HB := Lib.hid (below_up HB.out hb3)))
  obtain ⟨X, hX⟩ : ∃ X, X = least2 (if at_ < c.a then c.a else at_) c.b := ⟨_, rfl⟩
  refine Code.wp_mono (Q := fun e a' w' => e = .normal ∧ ∃ (p : Nat), a' = { tmps := #[.pointer (some ⟨L, 0, none⟩), a'.tmps.getD 1 undef, a'.tmps.getD 2 undef, a'.tmps.getD 3 undef, .pointer (some ⟨w.heap.size, 0, none⟩), a'.tmps.getD 5 undef, .int .u64 0, .int .u64 (Clk.carriesF c.a c.b c.r), .pointer (some ⟨p, 0, none⟩), a'.tmps.getD 9 undef, a'.tmps.getD 10 undef, a'.tmps.getD 11 undef, a'.tmps.getD 12 undef, a'.tmps.getD 13 undef, a'.tmps.getD 14 undef, a'.tmps.getD 15 undef, a'.tmps.getD 16 undef, a'.tmps.getD 17 undef, a'.tmps.getD 18 undef, a'.tmps.getD 19 undef, a'.tmps.getD 20 undef, a'.tmps.getD 21 undef, a'.tmps.getD 22 undef, a'.tmps.getD 23 undef, a'.tmps.getD 24 undef, a'.tmps.getD 25 undef, a'.tmps.getD 26 undef, a'.tmps.getD 27 undef, a'.tmps.getD 28 undef, a'.tmps.getD 29 undef, a'.tmps.getD 30 undef, a'.tmps.getD 31 undef, a'.tmps.getD 32 undef, a'.tmps.getD 33 undef, a'.tmps.getD 34 undef, a'.tmps.getD 35 undef, a'.tmps.getD 36 undef, a'.tmps.getD 37 undef, a'.tmps.getD 38 undef, a'.tmps.getD 39 undef, a'.tmps.getD 40 undef, a'.tmps.getD 41 undef, a'.tmps.getD 42 undef, a'.tmps.getD 43 undef, a'.tmps.getD 44 undef], defers := [] } ∧ RowAt w' p #[.int .u64 X, .int .u64 c.b] 30 ∧ Below w3.heap.size w3 w') ?post ?reg
  case reg =>
    refine wp_region_pt (fun j => w3.heap.size ≤ j) (.q 0 (.q 1 (.q 2 (.q 3 (.q 4 (.q 5 (.q 6 (.q 7 (.q 10 (.q 11 (.q 12 (.f 8 (.f 9 (.q 13 (.c 14 (.c 15 .done))) 14 (.c 9 (.q 13 (.c 15 .done)))) 14 (.c 8 (.c 9 (.q 13 (.c 15 .done)))))))))))))))) (by kernel_rfl) (by kernel_rfl) (by kernel_rfl) (by decide) (fun _ _ d _ _ h => by cases h.1) (fun Wd hBd => ?_)
    try simp only [Act.put, List.getElem_toArray, List.getElem_cons_zero, List.getElem_cons_succ, List.setIfInBounds_toArray, List.set_cons_zero, List.set_cons_succ]
    have HB := Lib.hid hBd
    have C4 := C3.below hBd
    have g := fun (w' : World) (hb : But (fun j => w3.heap.size ≤ j) Wd w') (j : Nat) (u : Value) (hj : (ctC c).toArray[j]? = some u) => hb.cell (C4.cell hj) (by have := C3.lt; omega)
    have g2 := fun w' hb => g w' hb 2 _ rfl
    have g3 := fun w' hb => g w' hb 3 _ rfl
    clear g
    refine pt_q (v := ?_) rfl (by rfl) ?_ ?_
    rotate_left
    · intro w' hBw'
      first | (go_simp; done) | (go_simp; with_reducible rfl)
    try simp only [Act.put, List.getElem_toArray, List.getElem_cons_zero, List.getElem_cons_succ, List.setIfInBounds_toArray, List.set_cons_zero, List.set_cons_succ]
    refine pt_q (v := ?_) rfl (by rfl) ?_ ?_
    rotate_left
    · intro w' hBw'
      first | (go_simp; done) | (go_simp; with_reducible rfl)
    try simp only [Act.put, List.getElem_toArray, List.getElem_cons_zero, List.getElem_cons_succ, List.setIfInBounds_toArray, List.set_cons_zero, List.set_cons_succ]
    refine pt_q (v := ?_) rfl (by rfl) ?_ ?_
    rotate_left
    · intro w' hBw'
      first | (go_simp; done) | (go_simp; with_reducible rfl)
    try simp only [Act.put, List.getElem_toArray, List.getElem_cons_zero, List.getElem_cons_succ, List.setIfInBounds_toArray, List.set_cons_zero, List.set_cons_succ]
    refine pt_q (v := ?_) rfl (by rfl) ?_ ?_
    rotate_left
    · intro w' hBw'
      first | (go_simp; done) | (go_simp; with_reducible rfl)
    try simp only [Act.put, List.getElem_toArray, List.getElem_cons_zero, List.getElem_cons_succ, List.setIfInBounds_toArray, List.set_cons_zero, List.set_cons_succ]
    refine pt_q (v := ?_) rfl (by rfl) ?_ ?_
    rotate_left
    · intro w' hBw'
      first | (go_simp; done) | (go_simp; with_reducible rfl)
    try simp only [Act.put, List.getElem_toArray, List.getElem_cons_zero, List.getElem_cons_succ, List.setIfInBounds_toArray, List.set_cons_zero, List.set_cons_succ]
    refine pt_q (v := ?_) rfl (by rfl) ?_ ?_
    rotate_left
    · intro w' hBw'
      first | (go_simp; done) | (go_simp; with_reducible rfl)
    try simp only [Act.put, List.getElem_toArray, List.getElem_cons_zero, List.getElem_cons_succ, List.setIfInBounds_toArray, List.set_cons_zero, List.set_cons_succ]
    refine pt_q (v := ?_) rfl (by rfl) ?_ ?_
    rotate_left
    · intro w' hBw'
      first | (go_simp; done) | (go_simp; with_reducible rfl)
    try simp only [Act.put, List.getElem_toArray, List.getElem_cons_zero, List.getElem_cons_succ, List.setIfInBounds_toArray, List.set_cons_zero, List.set_cons_succ]
    refine pt_q (v := ?_) rfl (by rfl) ?_ ?_
    rotate_left
    · intro w' hBw'
      first | (go_simp; done) | (go_simp; with_reducible rfl)
    try simp only [Act.put, List.getElem_toArray, List.getElem_cons_zero, List.getElem_cons_succ, List.setIfInBounds_toArray, List.set_cons_zero, List.set_cons_succ]
    refine pt_q (v := ?_) rfl (by rfl) ?_ ?_
    rotate_left
    · intro w' hBw'
      first | (go_simp; done) | (go_simp; with_reducible rfl)
    try simp only [Act.put, List.getElem_toArray, List.getElem_cons_zero, List.getElem_cons_succ, List.setIfInBounds_toArray, List.set_cons_zero, List.set_cons_succ]
    refine pt_q (v := ?_) rfl (by rfl) ?_ ?_
    rotate_left
    · intro w' hBw'
      first | (go_simp; done) | (go_simp; with_reducible rfl)
    try simp only [Act.put, List.getElem_toArray, List.getElem_cons_zero, List.getElem_cons_succ, List.setIfInBounds_toArray, List.set_cons_zero, List.set_cons_succ]
    refine pt_q (v := ?_) rfl (by rfl) ?_ ?_
    rotate_left
    · intro w' hBw'
      first | (go_simp; done) | (go_simp; with_reducible rfl)
    try simp only [Act.put, List.getElem_toArray, List.getElem_cons_zero, List.getElem_cons_succ, List.setIfInBounds_toArray, List.set_cons_zero, List.set_cons_succ]
    generalize (if at_ < c.a then c.a else at_) = mx at *
    refine pt_f ?_ ?_
    · refine pt_step rfl (by rfl) (fun K hK => ?_)
      go_simp
      have hsl := slU2 Wd _ rfl 28 mx c.b
      try rw [World.size_alloc] at hsl
      have hb := below_alloc Wd (.cells #[.int .u64 mx, .int .u64 c.b] 28)
      replace HB := Lib.hid (below_up HB.out hb)
      go_wp2_with fail
      refine hK.out _ _ (But.of_below hb) ?_
      clear hK K
      try simp only [Act.put, List.getElem_toArray, List.getElem_cons_zero, List.getElem_cons_succ, List.setIfInBounds_toArray, List.set_cons_zero, List.set_cons_succ]
      refine pt_f ?_ ?_
      · refine pt_step rfl (by rfl) (fun K hK => ?_)
        go_simp
        refine (least_c _ _ _ _ hsl).mono ?_
        rintro en w4 ⟨rfl, hb⟩
        replace HB := Lib.hid (below_up HB.out hb)
        go_wp2_with fail
        refine hK.out _ _ (But.of_below hb) ?_
        clear hK K
        try simp only [Act.put, List.getElem_toArray, List.getElem_cons_zero, List.getElem_cons_succ, List.setIfInBounds_toArray, List.set_cons_zero, List.set_cons_succ]
        refine pt_q (v := ?_) rfl (by rfl) ?_ ?_
        rotate_left
        · intro w' hBw'
          first | (go_simp; done) | (go_simp; with_reducible rfl)
        try simp only [Act.put, List.getElem_toArray, List.getElem_cons_zero, List.getElem_cons_succ, List.setIfInBounds_toArray, List.set_cons_zero, List.set_cons_succ]
        refine pt_c ?_
        refine pt_step rfl (by rfl) (fun K hK => ?_)
        go_simp
        have hz := RowAt.new w4 #[.int .u64 0, .int .u64 0] 30
        have hpz := HB.out.size
        have hb := below_alloc w4 (.cells #[.int .u64 0, .int .u64 0] 30)
        replace HB := Lib.hid (below_up HB.out hb)
        go_wp2_with fail
        refine hK.out _ _ (But.of_below hb) ?_
        clear hK K
        try simp only [Act.put, List.getElem_toArray, List.getElem_cons_zero, List.getElem_cons_succ, List.setIfInBounds_toArray, List.set_cons_zero, List.set_cons_succ]
        refine pt_c ?_
        refine pt_put_row rfl (by rfl) 30 (.tmp 8) (.tmp 30) rfl (w4.heap.size) [.int .u64 (least2 mx c.b), .int .u64 c.b] rfl rfl hz rfl (by kernel_rfl) rfl (by simp at *; omega) ?_; intro w5 R5 hb5
        try simp only [Act.put, List.getElem_toArray, List.getElem_cons_zero, List.getElem_cons_succ, List.setIfInBounds_toArray, List.set_cons_zero, List.set_cons_succ]
        refine pt_done ?_
        refine ⟨rfl, _, rfl, by rw [hX]; exact R5, HB.out.trans (hb5.below (fun k hk => by subst hk; simp at *; omega) HB.out.size)⟩
      · refine pt_step rfl (by rfl) (fun K hK => ?_)
        go_simp
        have hz := RowAt.new (Wd.alloc (.cells #[.int .u64 mx, .int .u64 c.b] 28)) #[.int .u64 0, .int .u64 0] 30
        have hpz := HB.out.size
        have hb := below_alloc (Wd.alloc (.cells #[.int .u64 mx, .int .u64 c.b] 28)) (.cells #[.int .u64 0, .int .u64 0] 30)
        replace HB := Lib.hid (below_up HB.out hb)
        replace hsl := hsl.up hb
        rw [World.size_alloc] at hz
        go_wp2_with fail
        refine hK.out _ _ (But.of_below hb) ?_
        clear hK K
        try simp only [Act.put, List.getElem_toArray, List.getElem_cons_zero, List.getElem_cons_succ, List.setIfInBounds_toArray, List.set_cons_zero, List.set_cons_succ]
        refine pt_c ?_
        refine pt_step rfl (by rfl) (fun K hK => ?_)
        go_simp
        refine (least_c _ _ _ _ hsl).mono ?_
        rintro en w4 ⟨rfl, hb⟩
        replace HB := Lib.hid (below_up HB.out hb)
        replace hz := hz.below hb
        go_wp2_with fail
        refine hK.out _ _ (But.of_below hb) ?_
        clear hK K
        try simp only [Act.put, List.getElem_toArray, List.getElem_cons_zero, List.getElem_cons_succ, List.setIfInBounds_toArray, List.set_cons_zero, List.set_cons_succ]
        refine pt_q (v := ?_) rfl (by rfl) ?_ ?_
        rotate_left
        · intro w' hBw'
          first | (go_simp; done) | (go_simp; with_reducible rfl)
        try simp only [Act.put, List.getElem_toArray, List.getElem_cons_zero, List.getElem_cons_succ, List.setIfInBounds_toArray, List.set_cons_zero, List.set_cons_succ]
        refine pt_c ?_
        refine pt_put_row rfl (by rfl) 30 (.tmp 8) (.tmp 30) rfl (Wd.heap.size + 1) [.int .u64 (least2 mx c.b), .int .u64 c.b] rfl rfl hz rfl (by kernel_rfl) rfl (by simp at *; omega) ?_; intro w5 R5 hb5
        try simp only [Act.put, List.getElem_toArray, List.getElem_cons_zero, List.getElem_cons_succ, List.setIfInBounds_toArray, List.set_cons_zero, List.set_cons_succ]
        refine pt_done ?_
        refine ⟨rfl, _, rfl, by rw [hX]; exact R5, HB.out.trans (hb5.below (fun k hk => by subst hk; simp at *; omega) HB.out.size)⟩
    · refine pt_step rfl (by rfl) (fun K hK => ?_)
      go_simp
      have hz := RowAt.new Wd #[.int .u64 0, .int .u64 0] 30
      have hpz := HB.out.size
      have hb := below_alloc Wd (.cells #[.int .u64 0, .int .u64 0] 30)
      replace HB := Lib.hid (below_up HB.out hb)
      go_wp2_with fail
      refine hK.out _ _ (But.of_below hb) ?_
      clear hK K
      try simp only [Act.put, List.getElem_toArray, List.getElem_cons_zero, List.getElem_cons_succ, List.setIfInBounds_toArray, List.set_cons_zero, List.set_cons_succ]
      refine pt_c ?_
      refine pt_step rfl (by rfl) (fun K hK => ?_)
      go_simp
      have hsl := slU2 (Wd.alloc (.cells #[.int .u64 0, .int .u64 0] 30)) _ rfl 28 mx c.b
      try rw [World.size_alloc] at hsl
      have hb := below_alloc (Wd.alloc (.cells #[.int .u64 0, .int .u64 0] 30)) (.cells #[.int .u64 mx, .int .u64 c.b] 28)
      replace HB := Lib.hid (below_up HB.out hb)
      go_wp2_with fail
      refine hK.out _ _ (But.of_below hb) ?_
      clear hK K
      try simp only [Act.put, List.getElem_toArray, List.getElem_cons_zero, List.getElem_cons_succ, List.setIfInBounds_toArray, List.set_cons_zero, List.set_cons_succ]
      replace hz := hz.below hb
      refine pt_c ?_
      refine pt_step rfl (by rfl) (fun K hK => ?_)
      go_simp
      refine (least_c _ _ _ _ hsl).mono ?_
      rintro en w4 ⟨rfl, hb⟩
      replace HB := Lib.hid (below_up HB.out hb)
      replace hz := hz.below hb
      go_wp2_with fail
      refine hK.out _ _ (But.of_below hb) ?_
      clear hK K
      try simp only [Act.put, List.getElem_toArray, List.getElem_cons_zero, List.getElem_cons_succ, List.setIfInBounds_toArray, List.set_cons_zero, List.set_cons_succ]
      refine pt_q (v := ?_) rfl (by rfl) ?_ ?_
      rotate_left
      · intro w' hBw'
        first | (go_simp; done) | (go_simp; with_reducible rfl)
      try simp only [Act.put, List.getElem_toArray, List.getElem_cons_zero, List.getElem_cons_succ, List.setIfInBounds_toArray, List.set_cons_zero, List.set_cons_succ]
      refine pt_c ?_
      refine pt_put_row rfl (by rfl) 30 (.tmp 8) (.tmp 30) rfl (Wd.heap.size) [.int .u64 (least2 mx c.b), .int .u64 c.b] rfl rfl hz rfl (by kernel_rfl) rfl (by simp at *; omega) ?_; intro w5 R5 hb5
      try simp only [Act.put, List.getElem_toArray, List.getElem_cons_zero, List.getElem_cons_succ, List.setIfInBounds_toArray, List.set_cons_zero, List.set_cons_succ]
      refine pt_done ?_
      refine ⟨rfl, _, rfl, by rw [hX]; exact R5, HB.out.trans (hb5.below (fun k hk => by subst hk; simp at *; omega) HB.out.size)⟩
  case post =>
    rintro e a' w5 ⟨rfl, p, ha, R5, hb5⟩
    obtain ⟨u, hu⟩ : ∃ u : Nat → Value, ∀ i, a'.tmps.getD i undef = u i := ⟨_, fun _ => rfl⟩
    simp only [hu] at ha
    clear hu
    subst ha
    have HF : Led w5 L M E ∧ RowAt w5 w.heap.size (ctC c).toArray 32 ∧ RowAt w5 p [.int .u64 X, .int .u64 c.b].toArray 30 := ⟨h3.below hb5, C3.below hb5, R5⟩
    have hup : ∀ W1 W2 : World, Below W1.heap.size W1 W2 → (Led W1 L M E ∧ RowAt W1 w.heap.size (ctC c).toArray 32 ∧ RowAt W1 p [.int .u64 X, .int .u64 c.b].toArray 30) → (Led W2 L M E ∧ RowAt W2 w.heap.size (ctC c).toArray 32 ∧ RowAt W2 p [.int .u64 X, .int .u64 c.b].toArray 30) := fun _ _ hb h => ⟨h.1.below hb, h.2.1.below hb, h.2.2.below hb⟩
    replace HB := Lib.hid (below_up HB.out hb5)
    have hb2 := hc.b2
    have hab := hc.ab
    have hX0 : 0 ≤ X := by rw [hX]; exact least2_lo (by split <;> omega) (by omega)
    have hA1 := Clk.carriesF_b c.a c.b c.r (by omega)
    have hA2 := least2_le (Clk.carriesF c.a c.b c.r) (lk E c).2
    have hA3 := least2_lo hA1.1 hn
    obtain ⟨A, hA⟩ : ∃ A, A = Clk.carriesF c.a c.b c.r := ⟨_, rfl⟩
    rw [← hA] at hA1 hA2 hA3 ⊢
    have hwr : IntKind.u64.wrap (A - least2 A (lk E c).2) = A - least2 A (lk E c).2 := IntWalk.u64_in _ ⟨by omega, by omega⟩
    clear h1 h2 h3 C1 C2 C3 R5 hb5 hb2 hB
    have HX := Lib.hid hX
    have HA := Lib.hid hA
    clear hX hA
    go_wp2
    refine wp_region_pt (fun _ => False) (.q 0 (.q 1 (.q 2 (.q 3 (.q 8 (.q 9 (.q 10 (.c 4 (.c 5 (.c 6 (.q 7 (.c 11 (.c 12 (.c 13 (.q 14 .done))))))))))))))) (by kernel_rfl) (by kernel_rfl) (by kernel_rfl) (by decide) (fun _ _ d _ _ h => by cases d <;> exact h) (fun Wd hBd => ?_)
    try simp only [Act.put, List.getElem_toArray, List.getElem_cons_zero, List.getElem_cons_succ, List.setIfInBounds_toArray, List.set_cons_zero, List.set_cons_succ]
    replace HB := Lib.hid (below_up HB.out hBd)
    replace HF := hup _ _ hBd HF
    have g4 : ∀ w', But (fun _ => False) Wd w' → w'.cell? ⟨w.heap.size, 4, none⟩ = some (.int .u64 c.r) := fun w' hb => hb.cell (HF.2.1.cell (i := 4) rfl) (fun h => h)
    refine pt_q (v := ?_) rfl (by rfl) ?_ ?_
    rotate_left
    · intro w' hBw'
      first | (go_simp; done) | (go_simp; with_reducible rfl)
    try simp only [Act.put, List.getElem_toArray, List.getElem_cons_zero, List.getElem_cons_succ, List.setIfInBounds_toArray, List.set_cons_zero, List.set_cons_succ]
    refine pt_q (v := ?_) rfl (by rfl) ?_ ?_
    rotate_left
    · intro w' hBw'
      first | (go_simp; done) | (go_simp; with_reducible rfl)
    try simp only [Act.put, List.getElem_toArray, List.getElem_cons_zero, List.getElem_cons_succ, List.setIfInBounds_toArray, List.set_cons_zero, List.set_cons_succ]
    refine pt_q (v := ?_) rfl (by rfl) ?_ ?_
    rotate_left
    · intro w' hBw'
      first | (go_simp; done) | (go_simp; with_reducible rfl)
    try simp only [Act.put, List.getElem_toArray, List.getElem_cons_zero, List.getElem_cons_succ, List.setIfInBounds_toArray, List.set_cons_zero, List.set_cons_succ]
    refine pt_load rfl (by rfl) 32 (.tmp 4) rfl w.heap.size 0 rfl (ctC c) _ HF.2.1.range (fun h => h) Try.underlying32 rfl (by kernel_rfl) ?_
    try simp only [Act.put, List.getElem_toArray, List.getElem_cons_zero, List.getElem_cons_succ, List.setIfInBounds_toArray, List.set_cons_zero, List.set_cons_succ]
    refine pt_load rfl (by rfl) 30 (.tmp 8) rfl p 0 rfl [.int .u64 X, .int .u64 c.b] _ HF.2.2.range (fun h => h) Try.underlying30 rfl (by kernel_rfl) ?_
    try simp only [Act.put, List.getElem_toArray, List.getElem_cons_zero, List.getElem_cons_succ, List.setIfInBounds_toArray, List.set_cons_zero, List.set_cons_succ]
    refine pt_q (v := ?_) rfl (by rfl) ?_ ?_
    rotate_left
    · intro w' hBw'
      first | (go_simp; done) | (go_simp; with_reducible rfl)
    try simp only [Act.put, List.getElem_toArray, List.getElem_cons_zero, List.getElem_cons_succ, List.setIfInBounds_toArray, List.set_cons_zero, List.set_cons_succ]
    refine pt_q (v := ?_) rfl (by rfl) ?_ ?_
    rotate_left
    · intro w' hBw'
      first | (go_simp; done) | (go_simp; with_reducible rfl)
    try simp only [Act.put, List.getElem_toArray, List.getElem_cons_zero, List.getElem_cons_succ, List.setIfInBounds_toArray, List.set_cons_zero, List.set_cons_succ]
    refine pt_c ?_
    refine pt_step rfl (by rfl) (fun K hK => ?_)
    go_simp
    refine (vBookedL_c c hc _ HF.1).mono ?_
    rintro en x1 ⟨rfl, hb⟩
    replace HB := Lib.hid (below_up HB.out hb)
    replace HF := hup _ _ hb HF
    go_wp2_with fail
    refine hK.out _ _ (But.of_below hb) ?_
    clear hK K
    try simp only [Act.put, List.getElem_toArray, List.getElem_cons_zero, List.getElem_cons_succ, List.setIfInBounds_toArray, List.set_cons_zero, List.set_cons_succ]
    refine pt_c ?_
    refine pt_step rfl (by rfl) (fun K hK => ?_)
    go_simp
    have hs1 := slU2 x1 _ rfl 28 A (lk E c).2
    have hb := below_alloc x1 (.cells #[.int .u64 A, .int .u64 (lk E c).2] 28)
    replace HB := Lib.hid (below_up HB.out hb)
    replace HF := hup _ _ hb HF
    go_wp2_with fail
    refine hK.out _ _ (But.of_below hb) ?_
    clear hK K
    try simp only [Act.put, List.getElem_toArray, List.getElem_cons_zero, List.getElem_cons_succ, List.setIfInBounds_toArray, List.set_cons_zero, List.set_cons_succ]
    refine pt_c ?_
    refine pt_step rfl (by rfl) (fun K hK => ?_)
    go_simp
    refine (least_c _ _ _ _ hs1).mono ?_
    rintro en x3 ⟨rfl, hb⟩
    replace HB := Lib.hid (below_up HB.out hb)
    replace HF := hup _ _ hb HF
    clear hs1
    go_wp2_with fail
    refine hK.out _ _ (But.of_below hb) ?_
    clear hK K
    try simp only [Act.put, List.getElem_toArray, List.getElem_cons_zero, List.getElem_cons_succ, List.setIfInBounds_toArray, List.set_cons_zero, List.set_cons_succ]
    refine pt_q (v := ?_) rfl (by rfl) ?_ ?_
    rotate_left
    · intro w' hBw'
      first | (go_simp; done) | (go_simp; with_reducible rfl)
    try simp only [Act.put, List.getElem_toArray, List.getElem_cons_zero, List.getElem_cons_succ, List.setIfInBounds_toArray, List.set_cons_zero, List.set_cons_succ]
    refine pt_c ?_
    refine pt_step rfl (by rfl) (fun K hK => ?_)
    go_simp
    refine (carries_c X c.b c.r _ hX0 (by omega)).mono ?_
    rintro en x4 ⟨rfl, hb⟩
    replace HB := Lib.hid (below_up HB.out hb)
    replace HF := hup _ _ hb HF
    go_wp2_with fail
    refine hK.out _ _ (But.of_below hb) ?_
    clear hK K
    try simp only [Act.put, List.getElem_toArray, List.getElem_cons_zero, List.getElem_cons_succ, List.setIfInBounds_toArray, List.set_cons_zero, List.set_cons_succ]
    refine pt_c ?_
    refine pt_step rfl (by rfl) (fun K hK => ?_)
    go_simp
    have hs2 := slU2 x4 _ rfl 28 (A - least2 A (lk E c).2) (Clk.carriesF X c.b c.r)
    have hb := below_alloc x4 (.cells #[.int .u64 (A - least2 A (lk E c).2), .int .u64 (Clk.carriesF X c.b c.r)] 28)
    replace HB := Lib.hid (below_up HB.out hb)
    replace HF := hup _ _ hb HF
    go_wp2_with fail
    refine hK.out _ _ (But.of_below hb) ?_
    clear hK K
    try simp only [Act.put, List.getElem_toArray, List.getElem_cons_zero, List.getElem_cons_succ, List.setIfInBounds_toArray, List.set_cons_zero, List.set_cons_succ]
    refine pt_c ?_
    refine pt_step rfl (by rfl) (fun K hK => ?_)
    go_simp
    refine (least_c _ _ _ _ hs2).mono ?_
    rintro en x5 ⟨rfl, hb⟩
    replace HB := Lib.hid (below_up HB.out hb)
    replace HF := hup _ _ hb HF
    go_wp2_with fail
    refine hK.out _ _ (But.of_below hb) ?_
    clear hK K
    try simp only [Act.put, List.getElem_toArray, List.getElem_cons_zero, List.getElem_cons_succ, List.setIfInBounds_toArray, List.set_cons_zero, List.set_cons_succ]
    refine pt_q (v := ?_) rfl (by rfl) ?_ ?_
    rotate_left
    · intro w' hBw'
      first | (go_simp; done) | (go_simp; with_reducible rfl)
    try simp only [Act.put, List.getElem_toArray, List.getElem_cons_zero, List.getElem_cons_succ, List.setIfInBounds_toArray, List.set_cons_zero, List.set_cons_succ]
    refine pt_done ?_
    go_wp2
    go_ret
    refine ⟨?_, HB.out⟩
    unfold roomF
    rw [← HX.out, ← HA.out]
    rfl
end Go.Proofs.Ytbeccnlcidokmaa
