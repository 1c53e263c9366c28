/-
  CbDe: several texts in one (bundle.py).
-/
import Derived.Test.YtjenohodgpmchaaDoorCbK38
namespace Go.Proofs.YtjenohodgpmchaaDoor
open Go.RowKit Cb
set_option linter.unusedSimpArgs false
set_option linter.unusedVariables false
namespace Cb
theorem listP_error {f : List UInt8 → Except Int (It × Nat)} (hf : ∀ b e, f b = .error e → e = 120 ∨ e = 121) : ∀ (n : Nat) (b : List UInt8) (e : Int), listP f n b = .error e → e = 120 ∨ e = 121 := by
  intro n
  induction n with
  | zero => intro b e h; cases h
  | succ n ih =>
    intro b e h
    simp only [listP] at h
    cases hx : f b with
    | error e' => rw [hx] at h; cases h; exact hf _ _ hx
    | ok p =>
      rw [hx] at h
      simp only at h
      cases hy : listP f n (b.drop p.2) with
      | error e' => rw [hy] at h; cases h; exact ih _ _ hy
      | ok q => rw [hy] at h; cases h
theorem itemP_error : ∀ (d : Nat) (b : List UInt8) (e : Int), itemP d b = .error e → e = 120 ∨ e = 121 := by
  intro d
  induction d with
  | zero => intro b e h; cases h; exact .inl rfl
  | succ d ih =>
    intro b e h
    simp only [itemP] at h
    cases hs : simpleP b with
    | some y => rw [hs] at h; cases h
    | none =>
      rw [hs] at h
      simp only at h
      cases hh : headP b with
      | none => rw [hh] at h; cases h; exact .inr rfl
      | some p =>
        obtain ⟨m, n, j⟩ := p
        rw [hh] at h
        simp only [bodyP] at h
        repeat' split at h
        all_goals first
          | (cases h; done)
          | (cases h; exact .inr rfl)
          | (rename_i hl; cases h; exact listP_error ih _ _ _ hl)
theorem firstP_error {b : List UInt8} {e : Int} (h : firstP b = .error e) : e = 3 ∨ e = 120 ∨ e = 121 := by
  unfold firstP at h
  split at h
  · cases h; exact .inl rfl
  · exact .inr (itemP_error _ _ _ h)
theorem firstP_some {b : List UInt8} {x : It} {k : Nat} (h : firstP b = .ok (x, k)) : 1 ≤ k ∧ k ≤ b.length ∧ b.length ≤ 65536 := by
  unfold firstP at h
  split at h
  · cases h
  · have := itemP_some _ _ _ _ h
    omega
/-- The item of bytes. -/
def decP (b : List UInt8) : Except Int It := match firstP b with
  | .error e => .error e
  | .ok (x, k) => if k = b.length then .ok x else .error 121
end Cb
/-- What Decode tells. -/
def DecE (b : List UInt8) (w : World) (en : Ending) (w' : World) : Prop := Below w.heap.size w w' ∧ match decP b with
  | .error e => en = .returned (.tuple #[zeroIt, .int .i64 e])
  | .ok x => ∃ r, en = .returned (.tuple #[rwV r, .int .i64 0]) ∧ ItR (fun j => w.heap.size ≤ j ∧ j < w'.heap.size) w' x r
set_option maxHeartbeats 4000000 in
set_option maxRecDepth 100000 in
theorem decode_c (w : World) (v : Value) (b : List UInt8) (hv : Sl w 1 v b.length (by8 b)) (hT : Tabs w) : Calls Tryd.prog 9 #[v] w (DecE b w) := by
  obtain ⟨a, c, rfl⟩ := hv.len
  have hB0 := below_alloc w (.cells #[.int .i64 0, .int .u64 0, .slice none 0 0, .string ⟨#[]⟩, .slice none 0 0] 28)
  have XX := RowAt.new w #[.int .i64 0, .int .u64 0, .slice none 0 0, .string ⟨#[]⟩, .slice none 0 0] 28
  have hzr := fun (W : World) => RowAt.new W #[.int .i64 0, .int .u64 0, .slice none 0 0, .string ⟨#[]⟩, .slice none 0 0] 28
  have hfi := cbFirst_c (w.alloc (.cells #[.int .i64 0, .int .u64 0, .slice none 0 0, .string ⟨#[]⟩, .slice none 0 0] 28)) _ b (hv.up hB0) (hT.up hB0)
  cases hp : firstP b with
  | error e =>
    have hfi : Calls Tryd.prog 10 #[.slice a b.length c] (w.alloc (.cells #[.int .i64 0, .int .u64 0, .slice none 0 0, .string ⟨#[]⟩, .slice none 0 0] 28)) (fun en w' => en = .returned (.tuple #[zeroIt, .int .i64 0, .int .i64 e]) ∧ Below (w.alloc (.cells #[.int .i64 0, .int .u64 0, .slice none 0 0, .string ⟨#[]⟩, .slice none 0 0] 28)).heap.size (w.alloc (.cells #[.int .i64 0, .int .u64 0, .slice none 0 0, .string ⟨#[]⟩, .slice none 0 0] 28)) w') := hfi.mono fun en w' h => ⟨by have := h.2; rw [hp] at this; exact this, h.1⟩
    have HC := Lib.hid (show decP b = .error e by unfold decP; rw [hp])
    have hcs := firstP_error hp
    clear hp
    have he1 : (e == 0) = false := by rw [beq_eq_false_iff_ne]; omega
    have he2 : (e != 0) = true := by rw [bne_iff_ne]; omega
    have he3 : ¬ e = 0 := by omega
    clear hcs
    go_enter Tryd.func9, Tryd.ntmps9
    go_wp2_with (go_at_call 10; refine hfi.mono ?_; rintro en w5 ⟨rfl, hb5⟩; have X5 := (XX.below hb5).alloc (.cells #[.int .i64 0, .int .u64 0, .slice none 0 0, .string ⟨#[]⟩, .slice none 0 0] 28); have g0 := X5.fz 0; have g1 := X5.fz 1; have g2 := X5.fz 2; have g3 := X5.fz 3; have g4 := X5.fz 4; have e0 := X5.cell (i := 0) rfl; have e1 := X5.cell (i := 1) rfl; have e2 := X5.cell (i := 2) rfl; have e3 := X5.cell (i := 3) rfl; have e4 := X5.cell (i := 4) rfl)
    obtain ⟨hX6, hb6⟩ := set5 X5 (.int .i64 0) (.int .u64 0) (.slice none 0 0) (.string ⟨#[]⟩) (.slice none 0 0)
    have r0 := hX6.cell (i := 0) rfl; have r1 := hX6.cell (i := 1) rfl; have r2 := hX6.cell (i := 2) rfl; have r3 := hX6.cell (i := 3) rfl; have r4 := hX6.cell (i := 4) rfl
    have hbw := (below_up hB0 hb5).alloc (below_up hB0 hb5).size (.cells #[.int .i64 0, .int .u64 0, .slice none 0 0, .string ⟨#[]⟩, .slice none 0 0] 28)
    refine bodyPost_ret (v := .tuple #[zeroIt, .int .i64 e]) ?_ rfl ?_
    · simp [results, Tryd.results9, go_sem, r0, r1, r2, r3, r4]
    · exact ⟨hbw.trans (hb6.below (fun q e => by omega) hbw.size), by rw [HC.out]⟩
  | ok p =>
    obtain ⟨x, K⟩ := p
    have hK := firstP_some hp
    have hfi : Calls Tryd.prog 10 #[.slice a b.length c] (w.alloc (.cells #[.int .i64 0, .int .u64 0, .slice none 0 0, .string ⟨#[]⟩, .slice none 0 0] 28)) (fun en w' => ∃ r, en = .returned (.tuple #[rwV r, .int .i64 K, .int .i64 0]) ∧ ItR (fun j => (w.alloc (.cells #[.int .i64 0, .int .u64 0, .slice none 0 0, .string ⟨#[]⟩, .slice none 0 0] 28)).heap.size ≤ j ∧ j < w'.heap.size) w' x r ∧ Below (w.alloc (.cells #[.int .i64 0, .int .u64 0, .slice none 0 0, .string ⟨#[]⟩, .slice none 0 0] 28)).heap.size (w.alloc (.cells #[.int .i64 0, .int .u64 0, .slice none 0 0, .string ⟨#[]⟩, .slice none 0 0] 28)) w') := hfi.mono fun en w' h => by
      have h2 := h.2
      rw [hp] at h2
      obtain ⟨r, e1, e2⟩ := h2
      exact ⟨r, e1, e2, h.1⟩
    by_cases hKL : K = b.length
    · have HC := Lib.hid (show decP b = .ok x by unfold decP; rw [hp]; simp only; rw [if_pos hKL])
      rw [hKL] at hfi
      clear hp
      go_enter Tryd.func9, Tryd.ntmps9
      go_wp2_with (go_at_call 10; refine hfi.mono ?_; rintro en w5 ⟨r5, rfl, hr5, hb5⟩; have hsh := hr5.shape; obtain ⟨k1, n1, ba1, bn1, bc1, s1, la1, ln1, lc1, rfl⟩ := hsh; have X5 := (XX.below hb5).alloc (.cells #[.int .i64 k1, .int .u64 n1, .slice ba1 bn1 bc1, .string s1, .slice la1 ln1 lc1] 28); have Y5 := RowAt.new w5 #[.int .i64 k1, .int .u64 n1, .slice ba1 bn1 bc1, .string s1, .slice la1 ln1 lc1] 28; have y0 := Y5.cell (i := 0) rfl; have y1 := Y5.cell (i := 1) rfl; have y2 := Y5.cell (i := 2) rfl; have y3 := Y5.cell (i := 3) rfl; have y4 := Y5.cell (i := 4) rfl; have g0 := X5.fz 0; have g1 := X5.fz 1; have g2 := X5.fz 2; have g3 := X5.fz 3; have g4 := X5.fz 4; have e0 := X5.cell (i := 0) rfl; have e1 := X5.cell (i := 1) rfl; have e2 := X5.cell (i := 2) rfl; have e3 := X5.cell (i := 3) rfl; have e4 := X5.cell (i := 4) rfl)
      obtain ⟨hX6, hb6⟩ := set5 X5 (.int .i64 k1) (.int .u64 n1) (.slice ba1 bn1 bc1) (.string s1) (.slice la1 ln1 lc1)
      have r0 := hX6.cell (i := 0) rfl; have r1 := hX6.cell (i := 1) rfl; have r2 := hX6.cell (i := 2) rfl; have r3 := hX6.cell (i := 3) rfl; have r4 := hX6.cell (i := 4) rfl
      have hB5 := below_up hB0 hb5
      have hbw := hB5.alloc hB5.size (.cells #[.int .i64 k1, .int .u64 n1, .slice ba1 bn1 bc1, .string s1, .slice la1 ln1 lc1] 28)
      have hz6 := hb6.size
      simp only [World.size_alloc] at hz6
      refine bodyPost_ret (v := .tuple #[rwV ⟨k1, n1, .slice ba1 bn1 bc1, s1, .slice la1 ln1 lc1⟩, .int .i64 0]) ?_ rfl ?_
      · simp [results, Tryd.results9, go_sem, r0, r1, r2, r3, r4]
      refine ⟨hbw.trans (hb6.below (fun q e => by omega) hbw.size), ?_⟩
      rw [HC.out]
      refine ⟨_, rfl, ItR.turn (fun sz v n cs hs => ?_) _ _ hr5⟩
      refine ((hs.up (below_alloc _ _)).but hb6 (fun q hq e => by rw [World.size_alloc] at hq; omega)).mono fun q hq => ?_
      rw [World.size_alloc] at hq
      exact ⟨by omega, by omega⟩
    · have HC := Lib.hid (show decP b = .error 121 by unfold decP; rw [hp]; simp only; rw [if_neg hKL])
      have hne : ((K : Int) != (b.length : Int)) = true := by rw [bne_iff_ne]; omega
      have hne2 : ((K : Int) == (b.length : Int)) = false := by rw [beq_eq_false_iff_ne]; omega
      have hne3 : ¬ ((K : Int) = (b.length : Int)) := by omega
      clear hp
      go_enter Tryd.func9, Tryd.ntmps9
      go_wp2_with (go_at_call 10; refine hfi.mono ?_; rintro en w5 ⟨r5, rfl, hr5, hb5⟩; have hsh := hr5.shape; obtain ⟨k1, n1, ba1, bn1, bc1, s1, la1, ln1, lc1, rfl⟩ := hsh; have X5 := (XX.below hb5).alloc (.cells #[.int .i64 k1, .int .u64 n1, .slice ba1 bn1 bc1, .string s1, .slice la1 ln1 lc1] 28); have g0 := X5.fz 0; have g1 := X5.fz 1; have g2 := X5.fz 2; have g3 := X5.fz 3; have g4 := X5.fz 4; have e0 := X5.cell (i := 0) rfl; have e1 := X5.cell (i := 1) rfl; have e2 := X5.cell (i := 2) rfl; have e3 := X5.cell (i := 3) rfl; have e4 := X5.cell (i := 4) rfl)
      obtain ⟨hX6, hb6⟩ := set5 X5 (.int .i64 0) (.int .u64 0) (.slice none 0 0) (.string ⟨#[]⟩) (.slice none 0 0)
      have r0 := hX6.cell (i := 0) rfl; have r1 := hX6.cell (i := 1) rfl; have r2 := hX6.cell (i := 2) rfl; have r3 := hX6.cell (i := 3) rfl; have r4 := hX6.cell (i := 4) rfl
      have hB5 := below_up hB0 hb5
      have hbw := hB5.alloc hB5.size (.cells #[.int .i64 k1, .int .u64 n1, .slice ba1 bn1 bc1, .string s1, .slice la1 ln1 lc1] 28)
      refine bodyPost_ret (v := .tuple #[zeroIt, .int .i64 121]) ?_ rfl ?_
      · simp [results, Tryd.results9, go_sem, r0, r1, r2, r3, r4]
      · exact ⟨hbw.trans (hb6.below (fun q e => by omega) hbw.size), by rw [HC.out]⟩
end Go.Proofs.YtjenohodgpmchaaDoor
