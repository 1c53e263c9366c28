/-
  The contract of the reference's Both.
-/
import Derived.Test.YtnccbeiaohmnpaaClockE
namespace Go.Proofs.Ytnccbeiaohmnpaa
open Go.RowKit

/-- The blocks of the reference's Both, ahead of its calls and behind each. -/
structure BothW (w w1 : World) (a b c d m n : Int) : Prop where
  below : Below w.heap.size w w1
  y : w1.cell? ⟨w.heap.size + 1, 0, none⟩ = some (.int .u64 c) ∧ w1.cell? ⟨w.heap.size + 1, 1, none⟩ = some (.int .u64 d)
  r : w1.cell? ⟨w.heap.size + 1 + 1, 0, none⟩ = some (.int .u64 0) ∧ w1.cell? ⟨w.heap.size + 1 + 1, 1, none⟩ = some (.int .u64 0)
  f : w1.frozen? ⟨w.heap.size + 1 + 1, 0, none⟩ = false ∧ w1.frozen? ⟨w.heap.size + 1 + 1, 1, none⟩ = false
  z : w1.cell? ⟨w.heap.size + 1 + 1 + 1, 0, none⟩ = some (.int .u64 m) ∧ w1.cell? ⟨w.heap.size + 1 + 1 + 1, 1, none⟩ = some (.int .u64 n)

theorem BothW.start (w : World) (a b c d m n : Int) (T : TypeId) : BothW w ((((w.alloc (.cells #[.int .u64 a, .int .u64 b] T)).alloc (.cells #[.int .u64 c, .int .u64 d] T)).alloc (.cells #[.int .u64 0, .int .u64 0] T)).alloc (.cells #[.int .u64 m, .int .u64 n] T)) a b c d m n where
  below := below_new (below_new (below_new (below_alloc _ _)))
  y := ⟨by simp [go_sem], by simp [go_sem]⟩
  r := ⟨by simp [go_sem], by simp [go_sem]⟩
  f := ⟨by simp [go_sem], by simp [go_sem]⟩
  z := ⟨by simp [go_sem], by simp [go_sem]⟩
theorem BothW.up {w w1 w2 : World} {a b c d m n : Int} (h : BothW w w1 a b c d m n) (hb : Below w1.heap.size w1 w2) : BothW w w2 a b c d m n where
  below := below_up h.below hb
  y := ⟨cell_up hb h.y.1, cell_up hb h.y.2⟩
  r := ⟨cell_up hb h.r.1, cell_up hb h.r.2⟩
  f := ⟨frozen_up hb h.r.1 h.f.1, frozen_up hb h.r.2 h.f.2⟩
  z := ⟨cell_up hb h.z.1, cell_up hb h.z.2⟩

set_option maxHeartbeats 1000000 in
theorem bothR_c (a b c d : Int) (w : World) : Calls Try.prog 8 #[.agg #[.int .u64 a, .int .u64 b], .agg #[.int .u64 c, .int .u64 d]] w (Ret (.tuple #[Clk.bothF a b c d, .bool (Clk.bothB a b c d)]) w) := by
  generalize hx : Clk.rightB a b = x
  generalize hy : Clk.rightB c d = y
  have Hx := Lib.hid hx
  have Hy := Lib.hid hy
  rcases Clk.max_cases a c with ⟨h1, hm⟩ | ⟨h1, hm⟩ <;> rcases Clk.min_cases b d with ⟨h2, hn⟩ | ⟨h2, hn⟩
  · cases x
    · obtain ⟨hv, hw⟩ := Clk.bothB_no (a := a) (b := b) (c := c) (d := d) (by rw [hx]; rfl)
      rw [hv, hw]
      clear hv hw hx hy hm hn
      go_enter Try.func8, Try.ntmps8
      go_wp2_with fail
      obtain ⟨W1, hW1⟩ : ∃ W1, W1 = (((w.alloc (.cells #[.int .u64 a, .int .u64 b] 24)).alloc (.cells #[.int .u64 c, .int .u64 d] 24)).alloc (.cells #[.int .u64 0, .int .u64 0] 24)).alloc (.cells #[.int .u64 a, .int .u64 b] 24) := ⟨_, rfl⟩
      have h0 := BothW.start w a b c d a b 24
      rw [← hW1] at h0 ⊢
      clear hW1
      refine (rightR_c _ _ _).mono ?_; rw [Hx.out]; rintro e w1 ⟨rfl, hb⟩
      have h1' := h0.up hb
      clear hb h0
      obtain ⟨hB, ⟨y0, y1⟩, ⟨r0, r1⟩, ⟨f0, f1⟩, ⟨z0, z1⟩⟩ := id h1'
      go_wp2
      refine bodyPost_ret (v := .tuple #[.agg #[.int .u64 0, .int .u64 0], .bool false]) (by simp [results, Try.results8, go_sem, r0, r1]) rfl ⟨rfl, (hB.setCell (by show _ ≤ _ + 1 + 1; omega) _).setCell (by show _ ≤ _ + 1 + 1; omega) _⟩
    · cases y
      · obtain ⟨hv, hw⟩ := Clk.bothB_no (a := a) (b := b) (c := c) (d := d) (by rw [hx, hy]; rfl)
        rw [hv, hw]
        clear hv hw hx hy hm hn
        go_enter Try.func8, Try.ntmps8
        go_wp2_with fail
        obtain ⟨W1, hW1⟩ : ∃ W1, W1 = (((w.alloc (.cells #[.int .u64 a, .int .u64 b] 24)).alloc (.cells #[.int .u64 c, .int .u64 d] 24)).alloc (.cells #[.int .u64 0, .int .u64 0] 24)).alloc (.cells #[.int .u64 a, .int .u64 b] 24) := ⟨_, rfl⟩
        have h0 := BothW.start w a b c d a b 24
        rw [← hW1] at h0 ⊢
        clear hW1
        refine (rightR_c _ _ _).mono ?_; rw [Hx.out]; rintro e w1 ⟨rfl, hb⟩
        have h1' := h0.up hb
        clear hb h0
        obtain ⟨hB, ⟨y0, y1⟩, ⟨r0, r1⟩, ⟨f0, f1⟩, ⟨z0, z1⟩⟩ := id h1'
        go_wp2_with fail
        refine (rightR_c _ _ _).mono ?_; rw [Hy.out]; rintro e w2 ⟨rfl, hb⟩
        have h2' := h1'.up hb
        clear hb h1' hB y0 y1 r0 r1 f0 f1 z0 z1
        obtain ⟨hB, ⟨y0, y1⟩, ⟨r0, r1⟩, ⟨f0, f1⟩, ⟨z0, z1⟩⟩ := id h2'
        go_wp2
        refine bodyPost_ret (v := .tuple #[.agg #[.int .u64 0, .int .u64 0], .bool false]) (by simp [results, Try.results8, go_sem, r0, r1]) rfl ⟨rfl, (hB.setCell (by show _ ≤ _ + 1 + 1; omega) _).setCell (by show _ ≤ _ + 1 + 1; omega) _⟩
      · by_cases h3 : b ≤ a
        · obtain ⟨hv, hw⟩ := Clk.bothB_out hm hn h3
          rw [hv, hw]
          clear hv hw hx hy hm hn
          go_enter Try.func8, Try.ntmps8
          go_wp2_with fail
          obtain ⟨W1, hW1⟩ : ∃ W1, W1 = (((w.alloc (.cells #[.int .u64 a, .int .u64 b] 24)).alloc (.cells #[.int .u64 c, .int .u64 d] 24)).alloc (.cells #[.int .u64 0, .int .u64 0] 24)).alloc (.cells #[.int .u64 a, .int .u64 b] 24) := ⟨_, rfl⟩
          have h0 := BothW.start w a b c d a b 24
          rw [← hW1] at h0 ⊢
          clear hW1
          refine (rightR_c _ _ _).mono ?_; rw [Hx.out]; rintro e w1 ⟨rfl, hb⟩
          have h1' := h0.up hb
          clear hb h0
          obtain ⟨hB, ⟨y0, y1⟩, ⟨r0, r1⟩, ⟨f0, f1⟩, ⟨z0, z1⟩⟩ := id h1'
          go_wp2_with fail
          refine (rightR_c _ _ _).mono ?_; rw [Hy.out]; rintro e w2 ⟨rfl, hb⟩
          have h2' := h1'.up hb
          clear hb h1' hB y0 y1 r0 r1 f0 f1 z0 z1
          obtain ⟨hB, ⟨y0, y1⟩, ⟨r0, r1⟩, ⟨f0, f1⟩, ⟨z0, z1⟩⟩ := id h2'
          go_wp2
          refine bodyPost_ret (v := .tuple #[.agg #[.int .u64 0, .int .u64 0], .bool false]) (by simp [results, Try.results8, go_sem, r0, r1]) rfl ⟨rfl, (hB.setCell (by show _ ≤ _ + 1 + 1; omega) _).setCell (by show _ ≤ _ + 1 + 1; omega) _⟩
        · obtain ⟨hv, hw⟩ := Clk.bothB_yes (a := a) (b := b) (c := c) (d := d) (by rw [hx, hy]; rfl) hm hn (by omega)
          rw [hv, hw]
          clear hv hw hx hy hm hn
          go_enter Try.func8, Try.ntmps8
          go_wp2_with fail
          obtain ⟨W1, hW1⟩ : ∃ W1, W1 = (((w.alloc (.cells #[.int .u64 a, .int .u64 b] 24)).alloc (.cells #[.int .u64 c, .int .u64 d] 24)).alloc (.cells #[.int .u64 0, .int .u64 0] 24)).alloc (.cells #[.int .u64 a, .int .u64 b] 24) := ⟨_, rfl⟩
          have h0 := BothW.start w a b c d a b 24
          rw [← hW1] at h0 ⊢
          clear hW1
          refine (rightR_c _ _ _).mono ?_; rw [Hx.out]; rintro e w1 ⟨rfl, hb⟩
          have h1' := h0.up hb
          clear hb h0
          obtain ⟨hB, ⟨y0, y1⟩, ⟨r0, r1⟩, ⟨f0, f1⟩, ⟨z0, z1⟩⟩ := id h1'
          go_wp2_with fail
          refine (rightR_c _ _ _).mono ?_; rw [Hy.out]; rintro e w2 ⟨rfl, hb⟩
          have h2' := h1'.up hb
          clear hb h1' hB y0 y1 r0 r1 f0 f1 z0 z1
          obtain ⟨hB, ⟨y0, y1⟩, ⟨r0, r1⟩, ⟨f0, f1⟩, ⟨z0, z1⟩⟩ := id h2'
          go_wp2
          refine bodyPost_ret (v := .tuple #[.agg #[.int .u64 a, .int .u64 b], .bool true]) (by simp [results, Try.results8, go_sem, r0, r1]) rfl ⟨rfl, (hB.setCell (by show _ ≤ _ + 1 + 1; omega) _).setCell (by show _ ≤ _ + 1 + 1; omega) _⟩
  · cases x
    · obtain ⟨hv, hw⟩ := Clk.bothB_no (a := a) (b := b) (c := c) (d := d) (by rw [hx]; rfl)
      rw [hv, hw]
      clear hv hw hx hy hm hn
      go_enter Try.func8, Try.ntmps8
      go_wp2_with fail
      obtain ⟨W1, hW1⟩ : ∃ W1, W1 = (((w.alloc (.cells #[.int .u64 a, .int .u64 b] 24)).alloc (.cells #[.int .u64 c, .int .u64 d] 24)).alloc (.cells #[.int .u64 0, .int .u64 0] 24)).alloc (.cells #[.int .u64 a, .int .u64 d] 24) := ⟨_, rfl⟩
      have h0 := BothW.start w a b c d a d 24
      rw [← hW1] at h0 ⊢
      clear hW1
      refine (rightR_c _ _ _).mono ?_; rw [Hx.out]; rintro e w1 ⟨rfl, hb⟩
      have h1' := h0.up hb
      clear hb h0
      obtain ⟨hB, ⟨y0, y1⟩, ⟨r0, r1⟩, ⟨f0, f1⟩, ⟨z0, z1⟩⟩ := id h1'
      go_wp2
      refine bodyPost_ret (v := .tuple #[.agg #[.int .u64 0, .int .u64 0], .bool false]) (by simp [results, Try.results8, go_sem, r0, r1]) rfl ⟨rfl, (hB.setCell (by show _ ≤ _ + 1 + 1; omega) _).setCell (by show _ ≤ _ + 1 + 1; omega) _⟩
    · cases y
      · obtain ⟨hv, hw⟩ := Clk.bothB_no (a := a) (b := b) (c := c) (d := d) (by rw [hx, hy]; rfl)
        rw [hv, hw]
        clear hv hw hx hy hm hn
        go_enter Try.func8, Try.ntmps8
        go_wp2_with fail
        obtain ⟨W1, hW1⟩ : ∃ W1, W1 = (((w.alloc (.cells #[.int .u64 a, .int .u64 b] 24)).alloc (.cells #[.int .u64 c, .int .u64 d] 24)).alloc (.cells #[.int .u64 0, .int .u64 0] 24)).alloc (.cells #[.int .u64 a, .int .u64 d] 24) := ⟨_, rfl⟩
        have h0 := BothW.start w a b c d a d 24
        rw [← hW1] at h0 ⊢
        clear hW1
        refine (rightR_c _ _ _).mono ?_; rw [Hx.out]; rintro e w1 ⟨rfl, hb⟩
        have h1' := h0.up hb
        clear hb h0
        obtain ⟨hB, ⟨y0, y1⟩, ⟨r0, r1⟩, ⟨f0, f1⟩, ⟨z0, z1⟩⟩ := id h1'
        go_wp2_with fail
        refine (rightR_c _ _ _).mono ?_; rw [Hy.out]; rintro e w2 ⟨rfl, hb⟩
        have h2' := h1'.up hb
        clear hb h1' hB y0 y1 r0 r1 f0 f1 z0 z1
        obtain ⟨hB, ⟨y0, y1⟩, ⟨r0, r1⟩, ⟨f0, f1⟩, ⟨z0, z1⟩⟩ := id h2'
        go_wp2
        refine bodyPost_ret (v := .tuple #[.agg #[.int .u64 0, .int .u64 0], .bool false]) (by simp [results, Try.results8, go_sem, r0, r1]) rfl ⟨rfl, (hB.setCell (by show _ ≤ _ + 1 + 1; omega) _).setCell (by show _ ≤ _ + 1 + 1; omega) _⟩
      · by_cases h3 : d ≤ a
        · obtain ⟨hv, hw⟩ := Clk.bothB_out hm hn h3
          rw [hv, hw]
          clear hv hw hx hy hm hn
          go_enter Try.func8, Try.ntmps8
          go_wp2_with fail
          obtain ⟨W1, hW1⟩ : ∃ W1, W1 = (((w.alloc (.cells #[.int .u64 a, .int .u64 b] 24)).alloc (.cells #[.int .u64 c, .int .u64 d] 24)).alloc (.cells #[.int .u64 0, .int .u64 0] 24)).alloc (.cells #[.int .u64 a, .int .u64 d] 24) := ⟨_, rfl⟩
          have h0 := BothW.start w a b c d a d 24
          rw [← hW1] at h0 ⊢
          clear hW1
          refine (rightR_c _ _ _).mono ?_; rw [Hx.out]; rintro e w1 ⟨rfl, hb⟩
          have h1' := h0.up hb
          clear hb h0
          obtain ⟨hB, ⟨y0, y1⟩, ⟨r0, r1⟩, ⟨f0, f1⟩, ⟨z0, z1⟩⟩ := id h1'
          go_wp2_with fail
          refine (rightR_c _ _ _).mono ?_; rw [Hy.out]; rintro e w2 ⟨rfl, hb⟩
          have h2' := h1'.up hb
          clear hb h1' hB y0 y1 r0 r1 f0 f1 z0 z1
          obtain ⟨hB, ⟨y0, y1⟩, ⟨r0, r1⟩, ⟨f0, f1⟩, ⟨z0, z1⟩⟩ := id h2'
          go_wp2
          refine bodyPost_ret (v := .tuple #[.agg #[.int .u64 0, .int .u64 0], .bool false]) (by simp [results, Try.results8, go_sem, r0, r1]) rfl ⟨rfl, (hB.setCell (by show _ ≤ _ + 1 + 1; omega) _).setCell (by show _ ≤ _ + 1 + 1; omega) _⟩
        · obtain ⟨hv, hw⟩ := Clk.bothB_yes (a := a) (b := b) (c := c) (d := d) (by rw [hx, hy]; rfl) hm hn (by omega)
          rw [hv, hw]
          clear hv hw hx hy hm hn
          go_enter Try.func8, Try.ntmps8
          go_wp2_with fail
          obtain ⟨W1, hW1⟩ : ∃ W1, W1 = (((w.alloc (.cells #[.int .u64 a, .int .u64 b] 24)).alloc (.cells #[.int .u64 c, .int .u64 d] 24)).alloc (.cells #[.int .u64 0, .int .u64 0] 24)).alloc (.cells #[.int .u64 a, .int .u64 d] 24) := ⟨_, rfl⟩
          have h0 := BothW.start w a b c d a d 24
          rw [← hW1] at h0 ⊢
          clear hW1
          refine (rightR_c _ _ _).mono ?_; rw [Hx.out]; rintro e w1 ⟨rfl, hb⟩
          have h1' := h0.up hb
          clear hb h0
          obtain ⟨hB, ⟨y0, y1⟩, ⟨r0, r1⟩, ⟨f0, f1⟩, ⟨z0, z1⟩⟩ := id h1'
          go_wp2_with fail
          refine (rightR_c _ _ _).mono ?_; rw [Hy.out]; rintro e w2 ⟨rfl, hb⟩
          have h2' := h1'.up hb
          clear hb h1' hB y0 y1 r0 r1 f0 f1 z0 z1
          obtain ⟨hB, ⟨y0, y1⟩, ⟨r0, r1⟩, ⟨f0, f1⟩, ⟨z0, z1⟩⟩ := id h2'
          go_wp2
          refine bodyPost_ret (v := .tuple #[.agg #[.int .u64 a, .int .u64 d], .bool true]) (by simp [results, Try.results8, go_sem, r0, r1]) rfl ⟨rfl, (hB.setCell (by show _ ≤ _ + 1 + 1; omega) _).setCell (by show _ ≤ _ + 1 + 1; omega) _⟩
  · cases x
    · obtain ⟨hv, hw⟩ := Clk.bothB_no (a := a) (b := b) (c := c) (d := d) (by rw [hx]; rfl)
      rw [hv, hw]
      clear hv hw hx hy hm hn
      go_enter Try.func8, Try.ntmps8
      go_wp2_with fail
      obtain ⟨W1, hW1⟩ : ∃ W1, W1 = (((w.alloc (.cells #[.int .u64 a, .int .u64 b] 24)).alloc (.cells #[.int .u64 c, .int .u64 d] 24)).alloc (.cells #[.int .u64 0, .int .u64 0] 24)).alloc (.cells #[.int .u64 c, .int .u64 b] 24) := ⟨_, rfl⟩
      have h0 := BothW.start w a b c d c b 24
      rw [← hW1] at h0 ⊢
      clear hW1
      refine (rightR_c _ _ _).mono ?_; rw [Hx.out]; rintro e w1 ⟨rfl, hb⟩
      have h1' := h0.up hb
      clear hb h0
      obtain ⟨hB, ⟨y0, y1⟩, ⟨r0, r1⟩, ⟨f0, f1⟩, ⟨z0, z1⟩⟩ := id h1'
      go_wp2
      refine bodyPost_ret (v := .tuple #[.agg #[.int .u64 0, .int .u64 0], .bool false]) (by simp [results, Try.results8, go_sem, r0, r1]) rfl ⟨rfl, (hB.setCell (by show _ ≤ _ + 1 + 1; omega) _).setCell (by show _ ≤ _ + 1 + 1; omega) _⟩
    · cases y
      · obtain ⟨hv, hw⟩ := Clk.bothB_no (a := a) (b := b) (c := c) (d := d) (by rw [hx, hy]; rfl)
        rw [hv, hw]
        clear hv hw hx hy hm hn
        go_enter Try.func8, Try.ntmps8
        go_wp2_with fail
        obtain ⟨W1, hW1⟩ : ∃ W1, W1 = (((w.alloc (.cells #[.int .u64 a, .int .u64 b] 24)).alloc (.cells #[.int .u64 c, .int .u64 d] 24)).alloc (.cells #[.int .u64 0, .int .u64 0] 24)).alloc (.cells #[.int .u64 c, .int .u64 b] 24) := ⟨_, rfl⟩
        have h0 := BothW.start w a b c d c b 24
        rw [← hW1] at h0 ⊢
        clear hW1
        refine (rightR_c _ _ _).mono ?_; rw [Hx.out]; rintro e w1 ⟨rfl, hb⟩
        have h1' := h0.up hb
        clear hb h0
        obtain ⟨hB, ⟨y0, y1⟩, ⟨r0, r1⟩, ⟨f0, f1⟩, ⟨z0, z1⟩⟩ := id h1'
        go_wp2_with fail
        refine (rightR_c _ _ _).mono ?_; rw [Hy.out]; rintro e w2 ⟨rfl, hb⟩
        have h2' := h1'.up hb
        clear hb h1' hB y0 y1 r0 r1 f0 f1 z0 z1
        obtain ⟨hB, ⟨y0, y1⟩, ⟨r0, r1⟩, ⟨f0, f1⟩, ⟨z0, z1⟩⟩ := id h2'
        go_wp2
        refine bodyPost_ret (v := .tuple #[.agg #[.int .u64 0, .int .u64 0], .bool false]) (by simp [results, Try.results8, go_sem, r0, r1]) rfl ⟨rfl, (hB.setCell (by show _ ≤ _ + 1 + 1; omega) _).setCell (by show _ ≤ _ + 1 + 1; omega) _⟩
      · by_cases h3 : b ≤ c
        · obtain ⟨hv, hw⟩ := Clk.bothB_out hm hn h3
          rw [hv, hw]
          clear hv hw hx hy hm hn
          go_enter Try.func8, Try.ntmps8
          go_wp2_with fail
          obtain ⟨W1, hW1⟩ : ∃ W1, W1 = (((w.alloc (.cells #[.int .u64 a, .int .u64 b] 24)).alloc (.cells #[.int .u64 c, .int .u64 d] 24)).alloc (.cells #[.int .u64 0, .int .u64 0] 24)).alloc (.cells #[.int .u64 c, .int .u64 b] 24) := ⟨_, rfl⟩
          have h0 := BothW.start w a b c d c b 24
          rw [← hW1] at h0 ⊢
          clear hW1
          refine (rightR_c _ _ _).mono ?_; rw [Hx.out]; rintro e w1 ⟨rfl, hb⟩
          have h1' := h0.up hb
          clear hb h0
          obtain ⟨hB, ⟨y0, y1⟩, ⟨r0, r1⟩, ⟨f0, f1⟩, ⟨z0, z1⟩⟩ := id h1'
          go_wp2_with fail
          refine (rightR_c _ _ _).mono ?_; rw [Hy.out]; rintro e w2 ⟨rfl, hb⟩
          have h2' := h1'.up hb
          clear hb h1' hB y0 y1 r0 r1 f0 f1 z0 z1
          obtain ⟨hB, ⟨y0, y1⟩, ⟨r0, r1⟩, ⟨f0, f1⟩, ⟨z0, z1⟩⟩ := id h2'
          go_wp2
          refine bodyPost_ret (v := .tuple #[.agg #[.int .u64 0, .int .u64 0], .bool false]) (by simp [results, Try.results8, go_sem, r0, r1]) rfl ⟨rfl, (hB.setCell (by show _ ≤ _ + 1 + 1; omega) _).setCell (by show _ ≤ _ + 1 + 1; omega) _⟩
        · obtain ⟨hv, hw⟩ := Clk.bothB_yes (a := a) (b := b) (c := c) (d := d) (by rw [hx, hy]; rfl) hm hn (by omega)
          rw [hv, hw]
          clear hv hw hx hy hm hn
          go_enter Try.func8, Try.ntmps8
          go_wp2_with fail
          obtain ⟨W1, hW1⟩ : ∃ W1, W1 = (((w.alloc (.cells #[.int .u64 a, .int .u64 b] 24)).alloc (.cells #[.int .u64 c, .int .u64 d] 24)).alloc (.cells #[.int .u64 0, .int .u64 0] 24)).alloc (.cells #[.int .u64 c, .int .u64 b] 24) := ⟨_, rfl⟩
          have h0 := BothW.start w a b c d c b 24
          rw [← hW1] at h0 ⊢
          clear hW1
          refine (rightR_c _ _ _).mono ?_; rw [Hx.out]; rintro e w1 ⟨rfl, hb⟩
          have h1' := h0.up hb
          clear hb h0
          obtain ⟨hB, ⟨y0, y1⟩, ⟨r0, r1⟩, ⟨f0, f1⟩, ⟨z0, z1⟩⟩ := id h1'
          go_wp2_with fail
          refine (rightR_c _ _ _).mono ?_; rw [Hy.out]; rintro e w2 ⟨rfl, hb⟩
          have h2' := h1'.up hb
          clear hb h1' hB y0 y1 r0 r1 f0 f1 z0 z1
          obtain ⟨hB, ⟨y0, y1⟩, ⟨r0, r1⟩, ⟨f0, f1⟩, ⟨z0, z1⟩⟩ := id h2'
          go_wp2
          refine bodyPost_ret (v := .tuple #[.agg #[.int .u64 c, .int .u64 b], .bool true]) (by simp [results, Try.results8, go_sem, r0, r1]) rfl ⟨rfl, (hB.setCell (by show _ ≤ _ + 1 + 1; omega) _).setCell (by show _ ≤ _ + 1 + 1; omega) _⟩
  · cases x
    · obtain ⟨hv, hw⟩ := Clk.bothB_no (a := a) (b := b) (c := c) (d := d) (by rw [hx]; rfl)
      rw [hv, hw]
      clear hv hw hx hy hm hn
      go_enter Try.func8, Try.ntmps8
      go_wp2_with fail
      obtain ⟨W1, hW1⟩ : ∃ W1, W1 = (((w.alloc (.cells #[.int .u64 a, .int .u64 b] 24)).alloc (.cells #[.int .u64 c, .int .u64 d] 24)).alloc (.cells #[.int .u64 0, .int .u64 0] 24)).alloc (.cells #[.int .u64 c, .int .u64 d] 24) := ⟨_, rfl⟩
      have h0 := BothW.start w a b c d c d 24
      rw [← hW1] at h0 ⊢
      clear hW1
      refine (rightR_c _ _ _).mono ?_; rw [Hx.out]; rintro e w1 ⟨rfl, hb⟩
      have h1' := h0.up hb
      clear hb h0
      obtain ⟨hB, ⟨y0, y1⟩, ⟨r0, r1⟩, ⟨f0, f1⟩, ⟨z0, z1⟩⟩ := id h1'
      go_wp2
      refine bodyPost_ret (v := .tuple #[.agg #[.int .u64 0, .int .u64 0], .bool false]) (by simp [results, Try.results8, go_sem, r0, r1]) rfl ⟨rfl, (hB.setCell (by show _ ≤ _ + 1 + 1; omega) _).setCell (by show _ ≤ _ + 1 + 1; omega) _⟩
    · cases y
      · obtain ⟨hv, hw⟩ := Clk.bothB_no (a := a) (b := b) (c := c) (d := d) (by rw [hx, hy]; rfl)
        rw [hv, hw]
        clear hv hw hx hy hm hn
        go_enter Try.func8, Try.ntmps8
        go_wp2_with fail
        obtain ⟨W1, hW1⟩ : ∃ W1, W1 = (((w.alloc (.cells #[.int .u64 a, .int .u64 b] 24)).alloc (.cells #[.int .u64 c, .int .u64 d] 24)).alloc (.cells #[.int .u64 0, .int .u64 0] 24)).alloc (.cells #[.int .u64 c, .int .u64 d] 24) := ⟨_, rfl⟩
        have h0 := BothW.start w a b c d c d 24
        rw [← hW1] at h0 ⊢
        clear hW1
        refine (rightR_c _ _ _).mono ?_; rw [Hx.out]; rintro e w1 ⟨rfl, hb⟩
        have h1' := h0.up hb
        clear hb h0
        obtain ⟨hB, ⟨y0, y1⟩, ⟨r0, r1⟩, ⟨f0, f1⟩, ⟨z0, z1⟩⟩ := id h1'
        go_wp2_with fail
        refine (rightR_c _ _ _).mono ?_; rw [Hy.out]; rintro e w2 ⟨rfl, hb⟩
        have h2' := h1'.up hb
        clear hb h1' hB y0 y1 r0 r1 f0 f1 z0 z1
        obtain ⟨hB, ⟨y0, y1⟩, ⟨r0, r1⟩, ⟨f0, f1⟩, ⟨z0, z1⟩⟩ := id h2'
        go_wp2
        refine bodyPost_ret (v := .tuple #[.agg #[.int .u64 0, .int .u64 0], .bool false]) (by simp [results, Try.results8, go_sem, r0, r1]) rfl ⟨rfl, (hB.setCell (by show _ ≤ _ + 1 + 1; omega) _).setCell (by show _ ≤ _ + 1 + 1; omega) _⟩
      · by_cases h3 : d ≤ c
        · obtain ⟨hv, hw⟩ := Clk.bothB_out hm hn h3
          rw [hv, hw]
          clear hv hw hx hy hm hn
          go_enter Try.func8, Try.ntmps8
          go_wp2_with fail
          obtain ⟨W1, hW1⟩ : ∃ W1, W1 = (((w.alloc (.cells #[.int .u64 a, .int .u64 b] 24)).alloc (.cells #[.int .u64 c, .int .u64 d] 24)).alloc (.cells #[.int .u64 0, .int .u64 0] 24)).alloc (.cells #[.int .u64 c, .int .u64 d] 24) := ⟨_, rfl⟩
          have h0 := BothW.start w a b c d c d 24
          rw [← hW1] at h0 ⊢
          clear hW1
          refine (rightR_c _ _ _).mono ?_; rw [Hx.out]; rintro e w1 ⟨rfl, hb⟩
          have h1' := h0.up hb
          clear hb h0
          obtain ⟨hB, ⟨y0, y1⟩, ⟨r0, r1⟩, ⟨f0, f1⟩, ⟨z0, z1⟩⟩ := id h1'
          go_wp2_with fail
          refine (rightR_c _ _ _).mono ?_; rw [Hy.out]; rintro e w2 ⟨rfl, hb⟩
          have h2' := h1'.up hb
          clear hb h1' hB y0 y1 r0 r1 f0 f1 z0 z1
          obtain ⟨hB, ⟨y0, y1⟩, ⟨r0, r1⟩, ⟨f0, f1⟩, ⟨z0, z1⟩⟩ := id h2'
          go_wp2
          refine bodyPost_ret (v := .tuple #[.agg #[.int .u64 0, .int .u64 0], .bool false]) (by simp [results, Try.results8, go_sem, r0, r1]) rfl ⟨rfl, (hB.setCell (by show _ ≤ _ + 1 + 1; omega) _).setCell (by show _ ≤ _ + 1 + 1; omega) _⟩
        · obtain ⟨hv, hw⟩ := Clk.bothB_yes (a := a) (b := b) (c := c) (d := d) (by rw [hx, hy]; rfl) hm hn (by omega)
          rw [hv, hw]
          clear hv hw hx hy hm hn
          go_enter Try.func8, Try.ntmps8
          go_wp2_with fail
          obtain ⟨W1, hW1⟩ : ∃ W1, W1 = (((w.alloc (.cells #[.int .u64 a, .int .u64 b] 24)).alloc (.cells #[.int .u64 c, .int .u64 d] 24)).alloc (.cells #[.int .u64 0, .int .u64 0] 24)).alloc (.cells #[.int .u64 c, .int .u64 d] 24) := ⟨_, rfl⟩
          have h0 := BothW.start w a b c d c d 24
          rw [← hW1] at h0 ⊢
          clear hW1
          refine (rightR_c _ _ _).mono ?_; rw [Hx.out]; rintro e w1 ⟨rfl, hb⟩
          have h1' := h0.up hb
          clear hb h0
          obtain ⟨hB, ⟨y0, y1⟩, ⟨r0, r1⟩, ⟨f0, f1⟩, ⟨z0, z1⟩⟩ := id h1'
          go_wp2_with fail
          refine (rightR_c _ _ _).mono ?_; rw [Hy.out]; rintro e w2 ⟨rfl, hb⟩
          have h2' := h1'.up hb
          clear hb h1' hB y0 y1 r0 r1 f0 f1 z0 z1
          obtain ⟨hB, ⟨y0, y1⟩, ⟨r0, r1⟩, ⟨f0, f1⟩, ⟨z0, z1⟩⟩ := id h2'
          go_wp2
          refine bodyPost_ret (v := .tuple #[.agg #[.int .u64 c, .int .u64 d], .bool true]) (by simp [results, Try.results8, go_sem, r0, r1]) rfl ⟨rfl, (hB.setCell (by show _ ≤ _ + 1 + 1; omega) _).setCell (by show _ ≤ _ + 1 + 1; omega) _⟩
end Go.Proofs.Ytnccbeiaohmnpaa
