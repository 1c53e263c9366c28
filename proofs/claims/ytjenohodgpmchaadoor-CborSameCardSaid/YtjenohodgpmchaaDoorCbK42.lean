/-
  CbRd, CbWa, CbWb: several texts in one (bundle.py).
-/
import Derived.Test.YtjenohodgpmchaaDoorCbK41
import Derived.Test.YtjenohodgpmchaaDoorCbK40
namespace Go.Proofs.YtjenohodgpmchaaDoor
open Go.RowKit Cb
set_option linter.unusedSimpArgs false
set_option linter.unusedVariables false
theorem firstR_c : ∀ (d i : Nat), d + i = 8 → ∀ (w : World) (v : Value) (b : List UInt8), Sl w 1 v b.length (by8 b) → b.length ≤ 1000000 → Calls Tryd.prog 33 #[v, .int .i64 i] w (FrE d b w) := by
  intro d
  induction d with
  | zero => exact fun i hi w v b _ _ => firstR_deep w v b i (by omega)
  | succ d ih =>
    intro i hi w v b hv hl
    cases b with
    | nil => exact firstR_nil d i (by omega) w v hv
    | cons f r =>
      have hF : f.toNat < 256 := f.toNat_lt
      by_cases h1 : f.toNat < 244
      · exact firstR_step d i (by omega) (fun w v b h hl => by have := ih (i + 1) (by omega) w v b h hl; rwa [Int.natCast_add] at this) w v f r _ List.length_cons hv hl h1
      · by_cases h2 : f.toNat ≤ 246
        · exact firstR_simple d i (by omega) w v f r _ List.length_cons hv hl ⟨by omega, h2⟩
        · exact firstR_far d i (by omega) w v f r _ List.length_cons hv hl (by omega)
set_option maxHeartbeats 4000000 in
set_option maxRecDepth 100000 in
theorem refFirst_c (w : World) (v : Value) (b : List UInt8) (hv : Sl w 1 v b.length (by8 b)) : Calls Tryd.prog 12 #[v] w (FstE b w) := by
  obtain ⟨a, c, rfl⟩ := hv.len
  have hB0 := below_alloc w (.cells #[.int .i64 0, .int .u64 0, .slice none 0 0, .string ⟨#[]⟩, .slice none 0 0] 28)
  have hbx := RowAt.new w #[.int .i64 0, .int .u64 0, .slice none 0 0, .string ⟨#[]⟩, .slice none 0 0] 28
  have hz0 : (w.alloc (.cells #[.int .i64 0, .int .u64 0, .slice none 0 0, .string ⟨#[]⟩, .slice none 0 0] 28)).heap.size = w.heap.size + 1 := World.size_alloc _ _
  obtain ⟨W0, hW0⟩ : ∃ W, w.alloc (.cells #[.int .i64 0, .int .u64 0, .slice none 0 0, .string ⟨#[]⟩, .slice none 0 0] 28) = W := ⟨_, rfl⟩
  rw [hW0] at hB0 hbx hz0
  by_cases hL : 65536 < b.length
  · have HC := Lib.hid (show firstP b = .error 3 by unfold firstP; rw [if_pos hL])
    have hl1 : decide (65536 < (b.length : Int)) = true := decide_eq_true (by omega)
    have hl2 : decide ((b.length : Int) > 65536) = true := decide_eq_true (by omega)
    have e0 := hbx.cell (i := 0) rfl; have e1 := hbx.cell (i := 1) rfl; have e2 := hbx.cell (i := 2) rfl; have e3 := hbx.cell (i := 3) rfl; have e4 := hbx.cell (i := 4) rfl
    have g0 := hbx.fz 0; have g1 := hbx.fz 1; have g2 := hbx.fz 2; have g3 := hbx.fz 3; have g4 := hbx.fz 4
    go_enter Tryd.func12, Tryd.ntmps12
    go_wp2
    obtain ⟨hX6, hb6⟩ := set5 hbx (.int .i64 0) (.int .u64 0) (.slice none 0 0) (.string ⟨#[]⟩) (.slice none 0 0)
    have r0 := hX6.cell (i := 0) rfl; have r1 := hX6.cell (i := 1) rfl; have r2 := hX6.cell (i := 2) rfl; have r3 := hX6.cell (i := 3) rfl; have r4 := hX6.cell (i := 4) rfl
    refine bodyPost_ret (v := .tuple #[zeroIt, .int .i64 0, .int .i64 3]) ?_ rfl ?_
    · simp [results, Tryd.results12, go_sem, r0, r1, r2, r3, r4]
    · exact ⟨hB0.trans (hb6.below (fun q e => by omega) hB0.size), by rw [HC.out]⟩
  · have hl1 : decide (65536 < (b.length : Int)) = false := decide_eq_false (by omega)
    have hl2 : decide ((b.length : Int) > 65536) = false := decide_eq_false (by omega)
    have hfp : firstP b = itemP 8 b := by unfold firstP; rw [if_neg hL]
    have hit := firstR_c 8 0 rfl W0 _ b (hv.up hB0) (by omega)
    unfold FrE at hit
    cases hx : itemP 8 b with
    | error e =>
      rw [hx] at hit hfp
      have HC := Lib.hid hfp
      clear hfp hx
      go_enter Tryd.func12, Tryd.ntmps12
      go_wp2_with (go_at_call 33; refine hit.mono ?_; rintro en w5 ⟨hb5, rfl⟩; have X5 := hbx.below hb5; have g0 := X5.fz 0; have g1 := X5.fz 1; have g2 := X5.fz 2; have g3 := X5.fz 3; have g4 := X5.fz 4; have e0 := X5.cell (i := 0) rfl; have e1 := X5.cell (i := 1) rfl; have e2 := X5.cell (i := 2) rfl; have e3 := X5.cell (i := 3) rfl; have e4 := X5.cell (i := 4) rfl)
      obtain ⟨hX6, hb6⟩ := set5 X5 (.int .i64 0) (.int .u64 0) (.slice none 0 0) (.string ⟨#[]⟩) (.slice none 0 0)
      have r0 := hX6.cell (i := 0) rfl; have r1 := hX6.cell (i := 1) rfl; have r2 := hX6.cell (i := 2) rfl; have r3 := hX6.cell (i := 3) rfl; have r4 := hX6.cell (i := 4) rfl
      have hbw := below_up hB0 hb5
      refine bodyPost_ret (v := .tuple #[zeroIt, .int .i64 0, .int .i64 e]) ?_ rfl ?_
      · simp [results, Tryd.results12, go_sem, r0, r1, r2, r3, r4]
      · exact ⟨hbw.trans (hb6.below (fun q e => by omega) hbw.size), by rw [HC.out]⟩
    | ok p =>
      obtain ⟨x, K⟩ := p
      rw [hx] at hit hfp
      have HC := Lib.hid hfp
      clear hfp hx
      go_enter Tryd.func12, Tryd.ntmps12
      go_wp2_with (go_at_call 33; refine hit.mono ?_; rintro en w5 ⟨hb5, r5, rfl, hr5⟩; have hsh := hr5.shape; obtain ⟨k1, n1, ba1, bn1, bc1, s1, la1, ln1, lc1, rfl⟩ := hsh; have X5 := hbx.below hb5; have g0 := X5.fz 0; have g1 := X5.fz 1; have g2 := X5.fz 2; have g3 := X5.fz 3; have g4 := X5.fz 4; have e0 := X5.cell (i := 0) rfl; have e1 := X5.cell (i := 1) rfl; have e2 := X5.cell (i := 2) rfl; have e3 := X5.cell (i := 3) rfl; have e4 := X5.cell (i := 4) rfl)
      obtain ⟨hX6, hb6⟩ := set5 X5 (.int .i64 k1) (.int .u64 n1) (.slice ba1 bn1 bc1) (.string s1) (.slice la1 ln1 lc1)
      have r0 := hX6.cell (i := 0) rfl; have r1 := hX6.cell (i := 1) rfl; have r2 := hX6.cell (i := 2) rfl; have r3 := hX6.cell (i := 3) rfl; have r4 := hX6.cell (i := 4) rfl
      have hbw := below_up hB0 hb5
      have hz6 := hb6.size
      refine bodyPost_ret (v := .tuple #[rwV ⟨k1, n1, .slice ba1 bn1 bc1, s1, .slice la1 ln1 lc1⟩, .int .i64 K, .int .i64 0]) ?_ rfl ?_
      · simp [results, Tryd.results12, go_sem, r0, r1, r2, r3, r4]
      refine ⟨hbw.trans (hb6.below (fun q e => by omega) hbw.size), ?_⟩
      rw [HC.out]
      refine ⟨_, rfl, ItR.turn (fun sz v n cs hs => ?_) _ _ hr5⟩
      exact (hs.but hb6 (fun q hq e => by omega)).mono fun q hq => ⟨by omega, by omega⟩
set_option maxHeartbeats 4000000 in
set_option maxRecDepth 100000 in
theorem decodeR_c (w : World) (v : Value) (b : List UInt8) (hv : Sl w 1 v b.length (by8 b)) : Calls Tryd.prog 11 #[v] w (DecE b w) := by
  obtain ⟨a, c, rfl⟩ := hv.len
  have hB0 := below_alloc w (.cells #[.int .i64 0, .int .u64 0, .slice none 0 0, .string ⟨#[]⟩, .slice none 0 0] 28)
  have XX := RowAt.new w #[.int .i64 0, .int .u64 0, .slice none 0 0, .string ⟨#[]⟩, .slice none 0 0] 28
  have hzr := fun (W : World) => RowAt.new W #[.int .i64 0, .int .u64 0, .slice none 0 0, .string ⟨#[]⟩, .slice none 0 0] 28
  have hfi := refFirst_c (w.alloc (.cells #[.int .i64 0, .int .u64 0, .slice none 0 0, .string ⟨#[]⟩, .slice none 0 0] 28)) _ b (hv.up hB0)
  cases hp : firstP b with
  | error e =>
    have hfi : Calls Tryd.prog 12 #[.slice a b.length c] (w.alloc (.cells #[.int .i64 0, .int .u64 0, .slice none 0 0, .string ⟨#[]⟩, .slice none 0 0] 28)) (fun en w' => en = .returned (.tuple #[zeroIt, .int .i64 0, .int .i64 e]) ∧ Below (w.alloc (.cells #[.int .i64 0, .int .u64 0, .slice none 0 0, .string ⟨#[]⟩, .slice none 0 0] 28)).heap.size (w.alloc (.cells #[.int .i64 0, .int .u64 0, .slice none 0 0, .string ⟨#[]⟩, .slice none 0 0] 28)) w') := hfi.mono fun en w' h => ⟨by have := h.2; rw [hp] at this; exact this, h.1⟩
    have HC := Lib.hid (show decP b = .error e by unfold decP; rw [hp])
    have hcs := firstP_error hp
    clear hp
    have he1 : (e == 0) = false := by rw [beq_eq_false_iff_ne]; omega
    have he2 : (e != 0) = true := by rw [bne_iff_ne]; omega
    have he3 : ¬ e = 0 := by omega
    clear hcs
    go_enter Tryd.func11, Tryd.ntmps11
    go_wp2_with (go_at_call 12; refine hfi.mono ?_; rintro en w5 ⟨rfl, hb5⟩; have X5 := (XX.below hb5).alloc (.cells #[.int .i64 0, .int .u64 0, .slice none 0 0, .string ⟨#[]⟩, .slice none 0 0] 28); have g0 := X5.fz 0; have g1 := X5.fz 1; have g2 := X5.fz 2; have g3 := X5.fz 3; have g4 := X5.fz 4; have e0 := X5.cell (i := 0) rfl; have e1 := X5.cell (i := 1) rfl; have e2 := X5.cell (i := 2) rfl; have e3 := X5.cell (i := 3) rfl; have e4 := X5.cell (i := 4) rfl)
    obtain ⟨hX6, hb6⟩ := set5 X5 (.int .i64 0) (.int .u64 0) (.slice none 0 0) (.string ⟨#[]⟩) (.slice none 0 0)
    have r0 := hX6.cell (i := 0) rfl; have r1 := hX6.cell (i := 1) rfl; have r2 := hX6.cell (i := 2) rfl; have r3 := hX6.cell (i := 3) rfl; have r4 := hX6.cell (i := 4) rfl
    have hbw := (below_up hB0 hb5).alloc (below_up hB0 hb5).size (.cells #[.int .i64 0, .int .u64 0, .slice none 0 0, .string ⟨#[]⟩, .slice none 0 0] 28)
    refine bodyPost_ret (v := .tuple #[zeroIt, .int .i64 e]) ?_ rfl ?_
    · simp [results, Tryd.results11, go_sem, r0, r1, r2, r3, r4]
    · exact ⟨hbw.trans (hb6.below (fun q e => by omega) hbw.size), by rw [HC.out]⟩
  | ok p =>
    obtain ⟨x, K⟩ := p
    have hK := firstP_some hp
    have hfi : Calls Tryd.prog 12 #[.slice a b.length c] (w.alloc (.cells #[.int .i64 0, .int .u64 0, .slice none 0 0, .string ⟨#[]⟩, .slice none 0 0] 28)) (fun en w' => ∃ r, en = .returned (.tuple #[rwV r, .int .i64 K, .int .i64 0]) ∧ ItR (fun j => (w.alloc (.cells #[.int .i64 0, .int .u64 0, .slice none 0 0, .string ⟨#[]⟩, .slice none 0 0] 28)).heap.size ≤ j ∧ j < w'.heap.size) w' x r ∧ Below (w.alloc (.cells #[.int .i64 0, .int .u64 0, .slice none 0 0, .string ⟨#[]⟩, .slice none 0 0] 28)).heap.size (w.alloc (.cells #[.int .i64 0, .int .u64 0, .slice none 0 0, .string ⟨#[]⟩, .slice none 0 0] 28)) w') := hfi.mono fun en w' h => by
      have h2 := h.2
      rw [hp] at h2
      obtain ⟨r, e1, e2⟩ := h2
      exact ⟨r, e1, e2, h.1⟩
    by_cases hKL : K = b.length
    · have HC := Lib.hid (show decP b = .ok x by unfold decP; rw [hp]; simp only; rw [if_pos hKL])
      rw [hKL] at hfi
      clear hp
      go_enter Tryd.func11, Tryd.ntmps11
      go_wp2_with (go_at_call 12; refine hfi.mono ?_; rintro en w5 ⟨r5, rfl, hr5, hb5⟩; have hsh := hr5.shape; obtain ⟨k1, n1, ba1, bn1, bc1, s1, la1, ln1, lc1, rfl⟩ := hsh; have X5 := (XX.below hb5).alloc (.cells #[.int .i64 k1, .int .u64 n1, .slice ba1 bn1 bc1, .string s1, .slice la1 ln1 lc1] 28); have Y5 := RowAt.new w5 #[.int .i64 k1, .int .u64 n1, .slice ba1 bn1 bc1, .string s1, .slice la1 ln1 lc1] 28; have y0 := Y5.cell (i := 0) rfl; have y1 := Y5.cell (i := 1) rfl; have y2 := Y5.cell (i := 2) rfl; have y3 := Y5.cell (i := 3) rfl; have y4 := Y5.cell (i := 4) rfl; have g0 := X5.fz 0; have g1 := X5.fz 1; have g2 := X5.fz 2; have g3 := X5.fz 3; have g4 := X5.fz 4; have e0 := X5.cell (i := 0) rfl; have e1 := X5.cell (i := 1) rfl; have e2 := X5.cell (i := 2) rfl; have e3 := X5.cell (i := 3) rfl; have e4 := X5.cell (i := 4) rfl)
      obtain ⟨hX6, hb6⟩ := set5 X5 (.int .i64 k1) (.int .u64 n1) (.slice ba1 bn1 bc1) (.string s1) (.slice la1 ln1 lc1)
      have r0 := hX6.cell (i := 0) rfl; have r1 := hX6.cell (i := 1) rfl; have r2 := hX6.cell (i := 2) rfl; have r3 := hX6.cell (i := 3) rfl; have r4 := hX6.cell (i := 4) rfl
      have hB5 := below_up hB0 hb5
      have hbw := hB5.alloc hB5.size (.cells #[.int .i64 k1, .int .u64 n1, .slice ba1 bn1 bc1, .string s1, .slice la1 ln1 lc1] 28)
      have hz6 := hb6.size
      simp only [World.size_alloc] at hz6
      refine bodyPost_ret (v := .tuple #[rwV ⟨k1, n1, .slice ba1 bn1 bc1, s1, .slice la1 ln1 lc1⟩, .int .i64 0]) ?_ rfl ?_
      · simp [results, Tryd.results11, go_sem, r0, r1, r2, r3, r4]
      refine ⟨hbw.trans (hb6.below (fun q e => by omega) hbw.size), ?_⟩
      rw [HC.out]
      refine ⟨_, rfl, ItR.turn (fun sz v n cs hs => ?_) _ _ hr5⟩
      refine ((hs.up (below_alloc _ _)).but hb6 (fun q hq e => by rw [World.size_alloc] at hq; omega)).mono fun q hq => ?_
      rw [World.size_alloc] at hq
      exact ⟨by omega, by omega⟩
    · have HC := Lib.hid (show decP b = .error 121 by unfold decP; rw [hp]; simp only; rw [if_neg hKL])
      have hne : ((K : Int) != (b.length : Int)) = true := by rw [bne_iff_ne]; omega
      have hne2 : ((K : Int) == (b.length : Int)) = false := by rw [beq_eq_false_iff_ne]; omega
      have hne3 : ¬ ((K : Int) = (b.length : Int)) := by omega
      clear hp
      go_enter Tryd.func11, Tryd.ntmps11
      go_wp2_with (go_at_call 12; refine hfi.mono ?_; rintro en w5 ⟨r5, rfl, hr5, hb5⟩; have hsh := hr5.shape; obtain ⟨k1, n1, ba1, bn1, bc1, s1, la1, ln1, lc1, rfl⟩ := hsh; have X5 := (XX.below hb5).alloc (.cells #[.int .i64 k1, .int .u64 n1, .slice ba1 bn1 bc1, .string s1, .slice la1 ln1 lc1] 28); have g0 := X5.fz 0; have g1 := X5.fz 1; have g2 := X5.fz 2; have g3 := X5.fz 3; have g4 := X5.fz 4; have e0 := X5.cell (i := 0) rfl; have e1 := X5.cell (i := 1) rfl; have e2 := X5.cell (i := 2) rfl; have e3 := X5.cell (i := 3) rfl; have e4 := X5.cell (i := 4) rfl)
      obtain ⟨hX6, hb6⟩ := set5 X5 (.int .i64 0) (.int .u64 0) (.slice none 0 0) (.string ⟨#[]⟩) (.slice none 0 0)
      have r0 := hX6.cell (i := 0) rfl; have r1 := hX6.cell (i := 1) rfl; have r2 := hX6.cell (i := 2) rfl; have r3 := hX6.cell (i := 3) rfl; have r4 := hX6.cell (i := 4) rfl
      have hB5 := below_up hB0 hb5
      have hbw := hB5.alloc hB5.size (.cells #[.int .i64 k1, .int .u64 n1, .slice ba1 bn1 bc1, .string s1, .slice la1 ln1 lc1] 28)
      refine bodyPost_ret (v := .tuple #[zeroIt, .int .i64 121]) ?_ rfl ?_
      · simp [results, Tryd.results11, go_sem, r0, r1, r2, r3, r4]
      · exact ⟨hbw.trans (hb6.below (fun q e => by omega) hbw.size), by rw [HC.out]⟩
end Go.Proofs.YtjenohodgpmchaaDoor

namespace Go.Proofs.YtjenohodgpmchaaDoor
open Go.RowKit Cb
set_option linter.unusedSimpArgs false
set_option linter.unusedVariables false
theorem numE_c (e : Int) (w : World) : Calls Tryd.prog 13 #[.int .i64 e] w (fun en w' => en = .returned (.int .i64 e) ∧ w = w') := by
  go_enter Tryd.func13, Tryd.ntmps13
  go_wp2
  go_ret
  exact ⟨rfl, rfl⟩
set_option maxRecDepth 100000 in
theorem mkUint_c (n : Int) (w : World) : Calls Tryd.prog 23 #[.int .u64 n] w (Ret (rwV ⟨1, n, .slice none 0 0, ⟨#[]⟩, .slice none 0 0⟩) w) := by
  go_enter Tryd.func23, Tryd.ntmps23
  go_wp2
  exact bodyPost_ret (results_cell_row Tryd.results23 _ _ w.heap.size _ _ _ _ rfl (RowAt.new w #[.int .i64 1, .int .u64 n, .slice none 0 0, .string ⟨#[]⟩, .slice none 0 0] 28) Tryd.underlying28 rfl (by kernel_rfl)) rfl ⟨rfl, below_alloc _ _⟩
set_option maxRecDepth 100000 in
theorem mkOctets_c (a : Option Addr) (n c : Nat) (w : World) : Calls Tryd.prog 16 #[.slice a n c] w (Ret (rwV ⟨2, 0, .slice a n c, ⟨#[]⟩, .slice none 0 0⟩) w) := by
  go_enter Tryd.func16, Tryd.ntmps16
  go_wp2
  exact bodyPost_ret (results_cell_row Tryd.results16 _ _ w.heap.size _ _ _ _ rfl (RowAt.new w #[.int .i64 2, .int .u64 0, .slice a n c, .string ⟨#[]⟩, .slice none 0 0] 28) Tryd.underlying28 rfl (by kernel_rfl)) rfl ⟨rfl, below_alloc _ _⟩
set_option maxRecDepth 100000 in
theorem mkText_c (s : ByteArray) (w : World) : Calls Tryd.prog 25 #[.string s] w (Ret (rwV ⟨3, 0, .slice none 0 0, s, .slice none 0 0⟩) w) := by
  go_enter Tryd.func25, Tryd.ntmps25
  go_wp2
  exact bodyPost_ret (results_cell_row Tryd.results25 _ _ w.heap.size _ _ _ _ rfl (RowAt.new w #[.int .i64 3, .int .u64 0, .slice none 0 0, .string s, .slice none 0 0] 28) Tryd.underlying28 rfl (by kernel_rfl)) rfl ⟨rfl, below_alloc _ _⟩
set_option maxRecDepth 100000 in
theorem mkList_c (a : Option Addr) (n c : Nat) (w : World) : Calls Tryd.prog 24 #[.slice a n c] w (Ret (rwV ⟨4, 0, .slice none 0 0, ⟨#[]⟩, .slice a n c⟩) w) := by
  go_enter Tryd.func24, Tryd.ntmps24
  go_wp2
  exact bodyPost_ret (results_cell_row Tryd.results24 _ _ w.heap.size _ _ _ _ rfl (RowAt.new w #[.int .i64 4, .int .u64 0, .slice none 0 0, .string ⟨#[]⟩, .slice a n c] 28) Tryd.underlying28 rfl (by kernel_rfl)) rfl ⟨rfl, below_alloc _ _⟩
set_option maxRecDepth 100000 in
theorem mkTrue_c (w : World) : Calls Tryd.prog 26 #[.bool true] w (Ret (rwV ⟨5, 1, .slice none 0 0, ⟨#[]⟩, .slice none 0 0⟩) w) := by
  go_enter Tryd.func26, Tryd.ntmps26
  go_wp2
  exact bodyPost_ret (results_cell_row Tryd.results26 _ _ w.heap.size _ _ _ _ rfl (RowAt.new w #[.int .i64 5, .int .u64 1, .slice none 0 0, .string ⟨#[]⟩, .slice none 0 0] 28) Tryd.underlying28 rfl (by kernel_rfl)) rfl ⟨rfl, below_alloc _ _⟩
theorem litSl (W : World) (l : List UInt8) (hl : l.length ≤ 1000) : Sl (W.alloc (.cells (by8 l).toArray 5)) 1 (.slice (some ⟨W.heap.size, 0, none⟩) l.length l.length) l.length (by8 l) := by
  refine ⟨by simp [by8], .inr ⟨_, 0, l.length, rfl, Nat.le_refl _, by simp only [maxLen]; omega, fun j u hj => ?_⟩⟩
  rw [Nat.zero_add]
  exact (RowAt.new W _ _).cell (by simpa using hj)
def deepB (n : Nat) : List UInt8 := List.replicate n 129 ++ [0]
set_option maxHeartbeats 2000000 in
set_option maxRecDepth 100000 in
theorem deep_c (n : Nat) (w : World) (hn : n ≤ 100) : Calls Tryd.prog 27 #[.int .i64 n] w (fun en w' => ∃ v, en = .returned v ∧ w'.ownsRow w.heap.size 5 1 v (deepB n).length (by8 (deepB n)) ∧ Below w.heap.size w w') := by
  go_enter Tryd.func27, Tryd.ntmps27
  go_wp2
  go_loopw [3, 4] (fun b i wr => ∃ j : Nat, j ≤ n ∧ i = .int .i64 j ∧ wr.ownsRow w.heap.size 5 1 b j (by8 (List.replicate j 129)) ∧ Below w.heap.size w wr) (fun _ i _ => n - (intOf i).toNat)
  case atStart => exact ⟨0, Nat.zero_le _, rfl, World.ownsRow_nil _ _ _ _, Below.refl _ _⟩
  case round =>
    obtain ⟨j, hj, rfl, hown, hB⟩ := hrel
    obtain ⟨ab, cb, rfl⟩ := own_slice hown
    have hlit := fun (c : UInt8) => litSl wr [c] (by simp)
    by_cases hlt : j < n
    · go_wp2_with (at_builtin; refine wpList_app rfl _ _ 22 rfl slT_u8 w.heap.size rfl (own_up hown (below_alloc wr (.cells (by8 [129]).toArray 5))) rfl (hlit 129) (one_by8 _) (by simp only [maxLen, List.length_cons, List.length_nil]; omega) (by simp only [List.length_cons, List.length_nil]; omega) (by have := hB.size; rw [World.size_alloc]; omega) ?_; intro v5 w5 ho5 hg5 _)
      go_roundw
      case rel =>
        refine ⟨j + 1, by omega, by go_num, own_cast ho5 rfl ?_, grown_below (hB.alloc hB.size _) hg5 (fun q hq => (own_of_some hown hq).1)⟩
        rw [List.replicate_succ']
        simp [by8]
      case measure => simp [intOf]; omega
    · obtain rfl : j = n := by omega
      go_wp2_with (at_builtin; refine wpList_app rfl _ _ 22 rfl slT_u8 w.heap.size rfl (own_up hown (below_alloc wr (.cells (by8 [0]).toArray 5))) rfl (hlit 0) (one_by8 _) (by simp only [maxLen, List.length_cons, List.length_nil]; omega) (by simp only [List.length_cons, List.length_nil]; omega) (by have := hB.size; rw [World.size_alloc]; omega) ?_; intro v5 w5 ho5 hg5 _)
      go_ret
      refine ⟨v5, rfl, own_cast ho5 (by simp [deepB]) (by simp [deepB, by8]), grown_below (hB.alloc hB.size _) hg5 (fun q hq => (own_of_some hown hq).1)⟩
end Go.Proofs.YtjenohodgpmchaaDoor

namespace Go.Proofs.YtjenohodgpmchaaDoor
open Go.RowKit Cb
set_option linter.unusedSimpArgs false
set_option linter.unusedVariables false
namespace Cb
abbrev hiS : ByteArray := ⟨#[104, 105]⟩
abbrev It1 : It := .mk 1 24 [] noS []
abbrev It2 : It := .mk 4 0 [] noS [.mk 2 0 [1] noS [], .mk 3 0 [] hiS [], .mk 5 1 [] noS [], .mk 6 0 [] noS []]
abbrev It3 : It := .mk 4 0 [] noS []
def lists : Nat → It
  | 0 => .mk 1 0 [] noS []
  | n + 1 => .mk 4 0 [] noS [lists n]
set_option maxRecDepth 100000
theorem chk1 : chk It1 = 0 := by decide
theorem bytes1 : bytesOf It1 = [24, 24] := by decide
theorem chk2 : chk It2 = 0 := by decide
theorem bytes2 : bytesOf It2 = [132, 65, 1, 98, 104, 105, 245, 246] := by decide
theorem chk3 : chk It3 = 0 := by decide
theorem bytes3 : bytesOf It3 = [128] := by decide
theorem dec1 : decP [24, 23] = .error 121 := by rfl
theorem dec2 : decP [129] = .error 121 := by rfl
theorem dec3 : decP [128, 0] = .error 121 := by rfl
theorem fst3 : firstP [128, 0] = .ok (It3, 1) := by rfl
theorem dec4 : decP [98, 255, 255] = .error 121 := by rfl
theorem dec5 : decP (deepB 8) = .error 120 := by rfl
theorem dec6 : decP (deepB 7) = .ok (lists 7) := by rfl
theorem depth6 : depth (lists 7) = 8 := by rfl
end Cb
end Go.Proofs.YtjenohodgpmchaaDoor
