/-
  CbRd, PrOb, PrI, PrV, PrC, PrU: several texts in one (bundle.py).
-/
import Derived.Test.YtpkonagjnfphkaaGreatDoorPmY39
import Derived.Test.YtpkonagjnfphkaaGreatDoorPmY36
import Derived.Test.YtpkonagjnfphkaaGreatDoorPmY31
import Derived.Test.YtpkonagjnfphkaaGreatDoorPmY17
import Derived.Test.YtpkonagjnfphkaaGreatDoorPmY25
import Derived.Test.YtpkonagjnfphkaaGreatDoorPmY29
set_option linter.unusedSimpArgs false
set_option linter.unusedVariables false
set_option maxRecDepth 100000
set_option maxHeartbeats 4000000
namespace Go.Proofs.YtpkonagjnfphkaaGreatDoor
open Go.RowKit Cb
theorem firstR_c : ∀ (d i : Nat), d + i = 8 → ∀ (w : World) (v : Value) (b : List UInt8), Sl w 1 v b.length (by8 b) → b.length ≤ 1000000 → Calls Tryz.prog 130 #[v, .int .i64 i] w (FrE d b w) := by
  intro d
  induction d with
  | zero => exact fun i hi w v b _ _ => firstR_deep w v b i (by omega)
  | succ d ih =>
    intro i hi w v b hv hl
    cases b with
    | nil => exact firstR_nil d i (by omega) w v hv
    | cons f r =>
      have hF : f.toNat < 256 := f.toNat_lt; by_cases h1 : f.toNat < 244
      · exact firstR_step d i (by omega) (fun w v b h hl => by have := ih (i + 1) (by omega) w v b h hl; rwa [Int.natCast_add] at this) w v f r _ List.length_cons hv hl h1
      · by_cases h2 : f.toNat ≤ 246
        · exact firstR_simple d i (by omega) w v f r _ List.length_cons hv hl ⟨by omega, h2⟩
        · exact firstR_far d i (by omega) w v f r _ List.length_cons hv hl (by omega)
theorem refFirst_c (w : World) (v : Value) (b : List UInt8) (hv : Sl w 1 v b.length (by8 b)) : Calls Tryz.prog 107 #[v] w (FstE b w) := by
  obtain ⟨a, c, rfl⟩ := hv.len; have hB0 := below_alloc w (.cells #[.int .i64 0, .int .u64 0, .slice none 0 0, .string ⟨#[]⟩, .slice none 0 0] 62); have hbx := RowAt.new w #[.int .i64 0, .int .u64 0, .slice none 0 0, .string ⟨#[]⟩, .slice none 0 0] 62; have hz0 : (w.alloc (.cells #[.int .i64 0, .int .u64 0, .slice none 0 0, .string ⟨#[]⟩, .slice none 0 0] 62)).heap.size = w.heap.size + 1 := World.size_alloc _ _; obtain ⟨W0, hW0⟩ : ∃ W, w.alloc (.cells #[.int .i64 0, .int .u64 0, .slice none 0 0, .string ⟨#[]⟩, .slice none 0 0] 62) = W := ⟨_, rfl⟩; rw [hW0] at hB0 hbx hz0; by_cases hL : 65536 < b.length
  · have HC := Lib.hid (show firstP b = .error 3 by unfold firstP; rw [if_pos hL])
    have hl1 : decide (65536 < (b.length : Int)) = true := decide_eq_true (by omega); have hl2 : decide ((b.length : Int) > 65536) = true := decide_eq_true (by omega); have e0 := hbx.cell (i := 0) rfl; have e1 := hbx.cell (i := 1) rfl; have e2 := hbx.cell (i := 2) rfl; have e3 := hbx.cell (i := 3) rfl; have e4 := hbx.cell (i := 4) rfl; have g0 := hbx.fz 0; have g1 := hbx.fz 1; have g2 := hbx.fz 2; have g3 := hbx.fz 3; have g4 := hbx.fz 4; go_enter Tryz.func107, Tryz.ntmps107; go_wp2; obtain ⟨hX6, hb6⟩ := set5 hbx (.int .i64 0) (.int .u64 0) (.slice none 0 0) (.string ⟨#[]⟩) (.slice none 0 0); have r0 := hX6.cell (i := 0) rfl; have r1 := hX6.cell (i := 1) rfl; have r2 := hX6.cell (i := 2) rfl; have r3 := hX6.cell (i := 3) rfl; have r4 := hX6.cell (i := 4) rfl; refine bodyPost_ret (v := .tuple #[zeroIt, .int .i64 0, .int .i64 3]) ?_ rfl ?_
    · simp [results, Tryz.results107, go_sem, r0, r1, r2, r3, r4]
    · exact ⟨hB0.trans (hb6.below (fun q e => by omega) hB0.size), by rw [HC.out]⟩
  · have hl1 : decide (65536 < (b.length : Int)) = false := decide_eq_false (by omega)
    have hl2 : decide ((b.length : Int) > 65536) = false := decide_eq_false (by omega)
    have hfp : firstP b = itemP 8 b := by unfold firstP; rw [if_neg hL]
    have hit := firstR_c 8 0 rfl W0 _ b (hv.up hB0) (by omega); unfold FrE at hit
    cases hx : itemP 8 b with
    | error e =>
      rw [hx] at hit hfp; have HC := Lib.hid hfp; clear hfp hx; go_enter Tryz.func107, Tryz.ntmps107
      go_wp2_with (go_at_call 130; refine hit.mono ?_; rintro en w5 ⟨hb5, rfl⟩; have X5 := hbx.below hb5; have g0 := X5.fz 0; have g1 := X5.fz 1; have g2 := X5.fz 2; have g3 := X5.fz 3; have g4 := X5.fz 4; have e0 := X5.cell (i := 0) rfl; have e1 := X5.cell (i := 1) rfl; have e2 := X5.cell (i := 2) rfl; have e3 := X5.cell (i := 3) rfl; have e4 := X5.cell (i := 4) rfl)
      obtain ⟨hX6, hb6⟩ := set5 X5 (.int .i64 0) (.int .u64 0) (.slice none 0 0) (.string ⟨#[]⟩) (.slice none 0 0); have r0 := hX6.cell (i := 0) rfl; have r1 := hX6.cell (i := 1) rfl; have r2 := hX6.cell (i := 2) rfl; have r3 := hX6.cell (i := 3) rfl; have r4 := hX6.cell (i := 4) rfl; have hbw := below_up hB0 hb5; refine bodyPost_ret (v := .tuple #[zeroIt, .int .i64 0, .int .i64 e]) ?_ rfl ?_
      · simp [results, Tryz.results107, go_sem, r0, r1, r2, r3, r4]
      · exact ⟨hbw.trans (hb6.below (fun q e => by omega) hbw.size), by rw [HC.out]⟩
    | ok p =>
      obtain ⟨x, K⟩ := p; rw [hx] at hit hfp; have HC := Lib.hid hfp; clear hfp hx; go_enter Tryz.func107, Tryz.ntmps107
      go_wp2_with (go_at_call 130; refine hit.mono ?_; rintro en w5 ⟨hb5, r5, rfl, hr5⟩; have hsh := hr5.shape; obtain ⟨k1, n1, ba1, bn1, bc1, s1, la1, ln1, lc1, rfl⟩ := hsh; have X5 := hbx.below hb5; have g0 := X5.fz 0; have g1 := X5.fz 1; have g2 := X5.fz 2; have g3 := X5.fz 3; have g4 := X5.fz 4; have e0 := X5.cell (i := 0) rfl; have e1 := X5.cell (i := 1) rfl; have e2 := X5.cell (i := 2) rfl; have e3 := X5.cell (i := 3) rfl; have e4 := X5.cell (i := 4) rfl)
      obtain ⟨hX6, hb6⟩ := set5 X5 (.int .i64 k1) (.int .u64 n1) (.slice ba1 bn1 bc1) (.string s1) (.slice la1 ln1 lc1); have r0 := hX6.cell (i := 0) rfl; have r1 := hX6.cell (i := 1) rfl; have r2 := hX6.cell (i := 2) rfl; have r3 := hX6.cell (i := 3) rfl; have r4 := hX6.cell (i := 4) rfl; have hbw := below_up hB0 hb5; have hz6 := hb6.size; refine bodyPost_ret (v := .tuple #[rwV ⟨k1, n1, .slice ba1 bn1 bc1, s1, .slice la1 ln1 lc1⟩, .int .i64 K, .int .i64 0]) ?_ rfl ?_
      · simp [results, Tryz.results107, go_sem, r0, r1, r2, r3, r4]
      refine ⟨hbw.trans (hb6.below (fun q e => by omega) hbw.size), ?_⟩; rw [HC.out]; refine ⟨_, rfl, ItR.turn (fun sz v n cs hs => ?_) _ _ hr5⟩
      exact (hs.but hb6 (fun q hq e => by omega)).mono fun q hq => ⟨by omega, by omega⟩
theorem decodeR_c (w : World) (v : Value) (b : List UInt8) (hv : Sl w 1 v b.length (by8 b)) : Calls Tryz.prog 64 #[v] w (DecE b w) := by
  obtain ⟨a, c, rfl⟩ := hv.len; have hB0 := below_alloc w (.cells #[.int .i64 0, .int .u64 0, .slice none 0 0, .string ⟨#[]⟩, .slice none 0 0] 62); have XX := RowAt.new w #[.int .i64 0, .int .u64 0, .slice none 0 0, .string ⟨#[]⟩, .slice none 0 0] 62
  have hzr := fun (W : World) => RowAt.new W #[.int .i64 0, .int .u64 0, .slice none 0 0, .string ⟨#[]⟩, .slice none 0 0] 62
  have hfi := refFirst_c (w.alloc (.cells #[.int .i64 0, .int .u64 0, .slice none 0 0, .string ⟨#[]⟩, .slice none 0 0] 62)) _ b (hv.up hB0)
  cases hp : firstP b with
  | error e =>
    have hfi : Calls Tryz.prog 107 #[.slice a b.length c] (w.alloc (.cells #[.int .i64 0, .int .u64 0, .slice none 0 0, .string ⟨#[]⟩, .slice none 0 0] 62)) (fun en w' => en = .returned (.tuple #[zeroIt, .int .i64 0, .int .i64 e]) ∧ Below (w.alloc (.cells #[.int .i64 0, .int .u64 0, .slice none 0 0, .string ⟨#[]⟩, .slice none 0 0] 62)).heap.size (w.alloc (.cells #[.int .i64 0, .int .u64 0, .slice none 0 0, .string ⟨#[]⟩, .slice none 0 0] 62)) w') := hfi.mono fun en w' h => ⟨by have := h.2; rw [hp] at this; exact this, h.1⟩
    have HC := Lib.hid (show decP b = .error e by unfold decP; rw [hp]); have hcs := firstP_error hp; clear hp
    have he1 : (e == 0) = false := by rw [beq_eq_false_iff_ne]; omega
    have he2 : (e != 0) = true := by rw [bne_iff_ne]; omega
    have he3 : ¬ e = 0 := by omega
    clear hcs; go_enter Tryz.func64, Tryz.ntmps64
    go_wp2_with (go_at_call 107; refine hfi.mono ?_; rintro en w5 ⟨rfl, hb5⟩; have X5 := (XX.below hb5).alloc (.cells #[.int .i64 0, .int .u64 0, .slice none 0 0, .string ⟨#[]⟩, .slice none 0 0] 62); have g0 := X5.fz 0; have g1 := X5.fz 1; have g2 := X5.fz 2; have g3 := X5.fz 3; have g4 := X5.fz 4; have e0 := X5.cell (i := 0) rfl; have e1 := X5.cell (i := 1) rfl; have e2 := X5.cell (i := 2) rfl; have e3 := X5.cell (i := 3) rfl; have e4 := X5.cell (i := 4) rfl)
    obtain ⟨hX6, hb6⟩ := set5 X5 (.int .i64 0) (.int .u64 0) (.slice none 0 0) (.string ⟨#[]⟩) (.slice none 0 0); have r0 := hX6.cell (i := 0) rfl; have r1 := hX6.cell (i := 1) rfl; have r2 := hX6.cell (i := 2) rfl; have r3 := hX6.cell (i := 3) rfl; have r4 := hX6.cell (i := 4) rfl; have hbw := (below_up hB0 hb5).alloc (below_up hB0 hb5).size (.cells #[.int .i64 0, .int .u64 0, .slice none 0 0, .string ⟨#[]⟩, .slice none 0 0] 62); refine bodyPost_ret (v := .tuple #[zeroIt, .int .i64 e]) ?_ rfl ?_
    · simp [results, Tryz.results64, go_sem, r0, r1, r2, r3, r4]
    · exact ⟨hbw.trans (hb6.below (fun q e => by omega) hbw.size), by rw [HC.out]⟩
  | ok p =>
    obtain ⟨x, K⟩ := p; have hK := firstP_some hp
    have hfi : Calls Tryz.prog 107 #[.slice a b.length c] (w.alloc (.cells #[.int .i64 0, .int .u64 0, .slice none 0 0, .string ⟨#[]⟩, .slice none 0 0] 62)) (fun en w' => ∃ r, en = .returned (.tuple #[rwV r, .int .i64 K, .int .i64 0]) ∧ ItR (fun j => (w.alloc (.cells #[.int .i64 0, .int .u64 0, .slice none 0 0, .string ⟨#[]⟩, .slice none 0 0] 62)).heap.size ≤ j ∧ j < w'.heap.size) w' x r ∧ Below (w.alloc (.cells #[.int .i64 0, .int .u64 0, .slice none 0 0, .string ⟨#[]⟩, .slice none 0 0] 62)).heap.size (w.alloc (.cells #[.int .i64 0, .int .u64 0, .slice none 0 0, .string ⟨#[]⟩, .slice none 0 0] 62)) w') := hfi.mono fun en w' h => by
      have h2 := h.2; rw [hp] at h2; obtain ⟨r, e1, e2⟩ := h2; exact ⟨r, e1, e2, h.1⟩
    by_cases hKL : K = b.length
    · have HC := Lib.hid (show decP b = .ok x by unfold decP; rw [hp]; simp only; rw [if_pos hKL])
      rw [hKL] at hfi; clear hp; go_enter Tryz.func64, Tryz.ntmps64
      go_wp2_with (go_at_call 107; refine hfi.mono ?_; rintro en w5 ⟨r5, rfl, hr5, hb5⟩; have hsh := hr5.shape; obtain ⟨k1, n1, ba1, bn1, bc1, s1, la1, ln1, lc1, rfl⟩ := hsh; have X5 := (XX.below hb5).alloc (.cells #[.int .i64 k1, .int .u64 n1, .slice ba1 bn1 bc1, .string s1, .slice la1 ln1 lc1] 62); have Y5 := RowAt.new w5 #[.int .i64 k1, .int .u64 n1, .slice ba1 bn1 bc1, .string s1, .slice la1 ln1 lc1] 62; have y0 := Y5.cell (i := 0) rfl; have y1 := Y5.cell (i := 1) rfl; have y2 := Y5.cell (i := 2) rfl; have y3 := Y5.cell (i := 3) rfl; have y4 := Y5.cell (i := 4) rfl; have g0 := X5.fz 0; have g1 := X5.fz 1; have g2 := X5.fz 2; have g3 := X5.fz 3; have g4 := X5.fz 4; have e0 := X5.cell (i := 0) rfl; have e1 := X5.cell (i := 1) rfl; have e2 := X5.cell (i := 2) rfl; have e3 := X5.cell (i := 3) rfl; have e4 := X5.cell (i := 4) rfl)
      obtain ⟨hX6, hb6⟩ := set5 X5 (.int .i64 k1) (.int .u64 n1) (.slice ba1 bn1 bc1) (.string s1) (.slice la1 ln1 lc1); have r0 := hX6.cell (i := 0) rfl; have r1 := hX6.cell (i := 1) rfl; have r2 := hX6.cell (i := 2) rfl; have r3 := hX6.cell (i := 3) rfl; have r4 := hX6.cell (i := 4) rfl; have hB5 := below_up hB0 hb5; have hbw := hB5.alloc hB5.size (.cells #[.int .i64 k1, .int .u64 n1, .slice ba1 bn1 bc1, .string s1, .slice la1 ln1 lc1] 62); have hz6 := hb6.size; simp only [World.size_alloc] at hz6; refine bodyPost_ret (v := .tuple #[rwV ⟨k1, n1, .slice ba1 bn1 bc1, s1, .slice la1 ln1 lc1⟩, .int .i64 0]) ?_ rfl ?_
      · simp [results, Tryz.results64, go_sem, r0, r1, r2, r3, r4]
      refine ⟨hbw.trans (hb6.below (fun q e => by omega) hbw.size), ?_⟩; rw [HC.out]; refine ⟨_, rfl, ItR.turn (fun sz v n cs hs => ?_) _ _ hr5⟩
      refine ((hs.up (below_alloc _ _)).but hb6 (fun q hq e => by rw [World.size_alloc] at hq; omega)).mono fun q hq => ?_
      rw [World.size_alloc] at hq; exact ⟨by omega, by omega⟩
    · have HC := Lib.hid (show decP b = .error 121 by unfold decP; rw [hp]; simp only; rw [if_neg hKL])
      have hne : ((K : Int) != (b.length : Int)) = true := by rw [bne_iff_ne]; omega
      have hne2 : ((K : Int) == (b.length : Int)) = false := by rw [beq_eq_false_iff_ne]; omega
      have hne3 : ¬ ((K : Int) = (b.length : Int)) := by omega
      clear hp; go_enter Tryz.func64, Tryz.ntmps64
      go_wp2_with (go_at_call 107; refine hfi.mono ?_; rintro en w5 ⟨r5, rfl, hr5, hb5⟩; have hsh := hr5.shape; obtain ⟨k1, n1, ba1, bn1, bc1, s1, la1, ln1, lc1, rfl⟩ := hsh; have X5 := (XX.below hb5).alloc (.cells #[.int .i64 k1, .int .u64 n1, .slice ba1 bn1 bc1, .string s1, .slice la1 ln1 lc1] 62); have g0 := X5.fz 0; have g1 := X5.fz 1; have g2 := X5.fz 2; have g3 := X5.fz 3; have g4 := X5.fz 4; have e0 := X5.cell (i := 0) rfl; have e1 := X5.cell (i := 1) rfl; have e2 := X5.cell (i := 2) rfl; have e3 := X5.cell (i := 3) rfl; have e4 := X5.cell (i := 4) rfl)
      obtain ⟨hX6, hb6⟩ := set5 X5 (.int .i64 0) (.int .u64 0) (.slice none 0 0) (.string ⟨#[]⟩) (.slice none 0 0); have r0 := hX6.cell (i := 0) rfl; have r1 := hX6.cell (i := 1) rfl; have r2 := hX6.cell (i := 2) rfl; have r3 := hX6.cell (i := 3) rfl; have r4 := hX6.cell (i := 4) rfl; have hB5 := below_up hB0 hb5; have hbw := hB5.alloc hB5.size (.cells #[.int .i64 k1, .int .u64 n1, .slice ba1 bn1 bc1, .string s1, .slice la1 ln1 lc1] 62); refine bodyPost_ret (v := .tuple #[zeroIt, .int .i64 121]) ?_ rfl ?_
      · simp [results, Tryz.results64, go_sem, r0, r1, r2, r3, r4]
      · exact ⟨hbw.trans (hb6.below (fun q e => by omega) hbw.size), by rw [HC.out]⟩
end Go.Proofs.YtpkonagjnfphkaaGreatDoor
namespace Go.Proofs.YtpkonagjnfphkaaGreatDoor
open Go.RowKit Trc Cb
theorem Prm.dec_ref {b : List UInt8} {x : It} (h : decP b = .ok x) : Prm.decPr b = Prm.refPr x := by
  have hb := (Cb.dec_got h).1; unfold Prm.decPr Prm.refPr; rw [h, hb]; rfl
theorem rDecodePr_c (b : List UInt8) (v : Value) (w : World) (hv : Sl w 1 v b.length (by8 b)) : Calls Tryz.prog 27 #[v] w (PDecE b w) := by
  obtain ⟨a, c, rfl⟩ := hv.len; have X0 := RowAt.new w #[.int .u32 0, .int .i64 0, .int .u32 0, .int .u32 0, .int .u32 0, .int .u32 0, .int .u32 0, .int .u32 0, .int .u64 0, .int .u32 0, .int .u64 0] 28; have hB0 := below_alloc w (.cells #[.int .u32 0, .int .i64 0, .int .u32 0, .int .u32 0, .int .u32 0, .int .u32 0, .int .u32 0, .int .u32 0, .int .u64 0, .int .u32 0, .int .u64 0] 28); have hde := decodeR_c (w.alloc (.cells #[.int .u32 0, .int .i64 0, .int .u32 0, .int .u32 0, .int .u32 0, .int .u32 0, .int .u32 0, .int .u32 0, .int .u64 0, .int .u32 0, .int .u64 0] 28)) _ b (hv.up hB0); unfold DecE at hde; have HX0 := Lib.hid X0; have HB0 := Lib.hid hB0; clear X0 hB0 hv
  cases hd : decP b with
  | error e =>
    rw [hd] at hde; have HD := Lib.hid (show Prm.decPr b = .error e by unfold Prm.decPr; rw [hd]); have he := Prm.decP_error hd
    have he1 : (e != 0) = true := by rw [bne_iff_ne]; omega
    clear hd he; go_enter Tryz.func27, Tryz.ntmps27
    go_wp2_with (first
      | (go_at_call 64; refine hde.mono ?_; rintro en w1 ⟨hb1, rfl⟩; have Z1 := (HX0.out.below hb1).alloc (.cells #[.int .i64 0, .int .u64 0, .slice none 0 0, .string ⟨#[]⟩, .slice none 0 0] 62); have z0 := Z1.cell (i := 0) rfl; have f0 := Z1.fz 0; have z1 := Z1.cell (i := 1) rfl; have f1 := Z1.fz 1; have z2 := Z1.cell (i := 2) rfl; have f2 := Z1.fz 2; have z3 := Z1.cell (i := 3) rfl; have f3 := Z1.fz 3; have z4 := Z1.cell (i := 4) rfl; have f4 := Z1.fz 4; have z5 := Z1.cell (i := 5) rfl; have f5 := Z1.fz 5; have z6 := Z1.cell (i := 6) rfl; have f6 := Z1.fz 6; have z7 := Z1.cell (i := 7) rfl; have f7 := Z1.fz 7; have z8 := Z1.cell (i := 8) rfl; have f8 := Z1.fz 8; have z9 := Z1.cell (i := 9) rfl; have f9 := Z1.fz 9; have z10 := Z1.cell (i := 10) rfl; have f10 := Z1.fz 10))
    have D1 := (below_up HB0.out hb1).alloc (below_up HB0.out hb1).size (.cells #[.int .i64 0, .int .u64 0, .slice none 0 0, .string ⟨#[]⟩, .slice none 0 0] 62); rw [row11_same (show RowAt _ w.heap.size #[.int .u32 0, .int .i64 0, .int .u32 0, .int .u32 0, .int .u32 0, .int .u32 0, .int .u32 0, .int .u32 0, .int .u64 0, .int .u32 0, .int .u64 0] 28 from Z1)]; refine bodyPost_ret (v := .tuple #[zPr, .int .i64 e]) ?_ rfl ?_
    · simp [results, Tryz.results27, go_sem, z0, z1, z2, z3, z4, z5, z6, z7, z8, z9, z10]
    exact ⟨D1, by rw [HD.out]⟩
  | ok x =>
    rw [hd] at hde; obtain ⟨_, _, hcx, hri, _⟩ := Cb.dec_got hd; have HCX := Lib.hid (show Cb.cnt x ≤ 1000000 by omega); have HRI := Lib.hid hri; have HD := Lib.hid (Prm.dec_ref hd); clear hd hcx hri; go_enter Tryz.func27, Tryz.ntmps27
    go_wp2_with (first
      | (go_at_call 64; refine hde.mono ?_; rintro en w1 ⟨hb1, r, rfl, hr⟩; obtain ⟨k1, n1, ba1, bn1, bc1, s1, la1, ln1, lc1, rfl⟩ := hr.shape; have Y1 := RowAt.new w1 #[.int .i64 k1, .int .u64 n1, .slice ba1 bn1 bc1, .string s1, .slice la1 ln1 lc1] 62; have y0 := Y1.cell (i := 0) rfl; have y1 := Y1.cell (i := 1) rfl; have y2 := Y1.cell (i := 2) rfl; have y3 := Y1.cell (i := 3) rfl; have y4 := Y1.cell (i := 4) rfl))
    clear y0 y1 y2 y3 y4; have hq := below_alloc w1 (.cells #[.int .i64 k1, .int .u64 n1, .slice ba1 bn1 bc1, .string s1, .slice la1 ln1 lc1] 62); have B1 := below_up HB0.out (below_up hb1 hq); have Z1 := (HX0.out.below hb1).below hq; have hi := (hr.up hq).mono (S' := fun j => j < (w1.alloc (.cells #[.int .i64 k1, .int .u64 n1, .slice ba1 bn1 bc1, .string s1, .slice la1 ln1 lc1] 62)).heap.size) (fun j e => by rw [World.size_alloc]; omega); obtain ⟨w2, hw2⟩ : ∃ X, w1.alloc (.cells #[.int .i64 k1, .int .u64 n1, .slice ba1 bn1 bc1, .string s1, .slice la1 ln1 lc1] 62) = X := ⟨_, rfl⟩; rw [hw2] at B1 Z1 hi ⊢; clear hw2 hq hb1 hr Y1; refine (rOfPr_c x ⟨k1, n1, .slice ba1 bn1 bc1, s1, .slice la1 ln1 lc1⟩ w2 hi HCX.out HRI.out).mono ?_; rintro en w3 ⟨hb3, he⟩; have B3 := below_up B1 hb3; have Z3 := Z1.below hb3; clear hi hb3 B1 Z1
    cases hp : Prm.refPr x with
    | error e =>
      rw [hp] at he; subst he; have HDE := Lib.hid (show Prm.decPr b = .error e by rw [HD.out, hp]); clear hp; have z0 := Z3.cell (i := 0) rfl; have f0 := Z3.fz 0; have z1 := Z3.cell (i := 1) rfl; have f1 := Z3.fz 1; have z2 := Z3.cell (i := 2) rfl; have f2 := Z3.fz 2; have z3 := Z3.cell (i := 3) rfl; have f3 := Z3.fz 3; have z4 := Z3.cell (i := 4) rfl; have f4 := Z3.fz 4; have z5 := Z3.cell (i := 5) rfl; have f5 := Z3.fz 5; have z6 := Z3.cell (i := 6) rfl; have f6 := Z3.fz 6; have z7 := Z3.cell (i := 7) rfl; have f7 := Z3.fz 7; have z8 := Z3.cell (i := 8) rfl; have f8 := Z3.fz 8; have z9 := Z3.cell (i := 9) rfl; have f9 := Z3.fz 9; have z10 := Z3.cell (i := 10) rfl; have f10 := Z3.fz 10; go_wp2; rw [row11_same (show RowAt _ w.heap.size #[.int .u32 0, .int .i64 0, .int .u32 0, .int .u32 0, .int .u32 0, .int .u32 0, .int .u32 0, .int .u32 0, .int .u64 0, .int .u32 0, .int .u64 0] 28 from Z3)]
      refine bodyPost_ret (v := .tuple #[zPr, .int .i64 e]) ?_ rfl ?_
      · simp [results, Tryz.results27, go_sem, z0, z1, z2, z3, z4, z5, z6, z7, z8, z9, z10]
      exact ⟨B3, by rw [HDE.out]⟩
    | ok p =>
      rw [hp] at he; subst he; have HDE := Lib.hid (show Prm.decPr b = .ok p by rw [HD.out, hp]); clear hp; have z0 := Z3.cell (i := 0) rfl; have f0 := Z3.fz 0; have z1 := Z3.cell (i := 1) rfl; have f1 := Z3.fz 1; have z2 := Z3.cell (i := 2) rfl; have f2 := Z3.fz 2; have z3 := Z3.cell (i := 3) rfl; have f3 := Z3.fz 3; have z4 := Z3.cell (i := 4) rfl; have f4 := Z3.fz 4; have z5 := Z3.cell (i := 5) rfl; have f5 := Z3.fz 5; have z6 := Z3.cell (i := 6) rfl; have f6 := Z3.fz 6; have z7 := Z3.cell (i := 7) rfl; have f7 := Z3.fz 7; have z8 := Z3.cell (i := 8) rfl; have f8 := Z3.fz 8; have z9 := Z3.cell (i := 9) rfl; have f9 := Z3.fz 9; have z10 := Z3.cell (i := 10) rfl; have f10 := Z3.fz 10; go_wp2; obtain ⟨R11, b11⟩ := row11 Z3 (.int .u32 p.flags) (.int .i64 p.sum) (.int .u32 p.toN) (.int .u32 p.toS) (.int .u32 p.srN) (.int .u32 p.srS) (.int .u32 p.rpN) (.int .u32 p.rpS) (.int .u64 p.time) (.int .u32 p.seq) (.int .u64 p.life)
      have r0 := R11.cell (i := 0) rfl; have r1 := R11.cell (i := 1) rfl; have r2 := R11.cell (i := 2) rfl; have r3 := R11.cell (i := 3) rfl; have r4 := R11.cell (i := 4) rfl; have r5 := R11.cell (i := 5) rfl; have r6 := R11.cell (i := 6) rfl; have r7 := R11.cell (i := 7) rfl; have r8 := R11.cell (i := 8) rfl; have r9 := R11.cell (i := 9) rfl; have r10 := R11.cell (i := 10) rfl; refine bodyPost_ret (v := .tuple #[prV p, .int .i64 0]) ?_ rfl ?_
      · simp [results, Tryz.results27, go_sem, r0, r1, r2, r3, r4, r5, r6, r7, r8, r9, r10]
      exact ⟨B3.trans (b11.below (fun k e => by omega) B3.size), by rw [HDE.out]⟩
attribute [local go_sem] Oper.semAt_some
theorem prNum_c (e : Int) (w : World) : Calls Tryz.prog 12 #[.int .i64 e] w (fun en w' => en = .returned (.int .i64 e) ∧ w = w') := by
  go_enter Tryz.func12, Tryz.ntmps12; go_wp2; go_ret; exact ⟨rfl, rfl⟩
def Prm.p1 : Prm.Pr := ⟨0, 0, 2, 0, 1, 0, 0, 0, 5, 6, 7⟩
theorem prFirst_c (w : World) : Calls Tryz.prog 33 #[] w (Ret (prV Prm.p1) w) := by
  have hZ := RowAt.new w (prC Prm.p1).toArray 28; go_enter Tryz.func33, Tryz.ntmps33; go_wp2; have g0 := RowAt.cell hZ (i := 0) (v := .int .u32 0) rfl; have g1 := RowAt.cell hZ (i := 1) (v := .int .i64 0) rfl; have g2 := RowAt.cell hZ (i := 2) (v := .int .u32 2) rfl; have g3 := RowAt.cell hZ (i := 3) (v := .int .u32 0) rfl; have g4 := RowAt.cell hZ (i := 4) (v := .int .u32 1) rfl; have g5 := RowAt.cell hZ (i := 5) (v := .int .u32 0) rfl; have g6 := RowAt.cell hZ (i := 6) (v := .int .u32 0) rfl; have g7 := RowAt.cell hZ (i := 7) (v := .int .u32 0) rfl; have g8 := RowAt.cell hZ (i := 8) (v := .int .u64 5) rfl; have g9 := RowAt.cell hZ (i := 9) (v := .int .u32 6) rfl; have g10 := RowAt.cell hZ (i := 10) (v := .int .u64 7) rfl; refine bodyPost_ret (v := prV Prm.p1) ?_ rfl ?_
  · simp [results, Tryz.results33, go_sem, Prm.p1, g0, g1, g2, g3, g4, g5, g6, g7, g8, g9, g10]
  exact ⟨rfl, below_alloc _ _⟩
def Prm.p2 : Prm.Pr := ⟨0, 0, 0, 0, 1, 0, 0, 0, 5, 6, 7⟩
def Prm.p3 : Prm.Pr := ⟨384, 0, 2, 0, 1, 0, 0, 0, 5, 6, 7⟩
def Prm.p4 : Prm.Pr := ⟨256, 0, 0, 0, 0, 0, 0, 0, 0, 0, 0⟩
theorem Prm.p1_ok : Prm.p1.Ok := by constructor <;> decide
theorem Prm.p2_ok : Prm.p2.Ok := by constructor <;> decide
theorem Prm.p3_ok : Prm.p3.Ok := by constructor <;> decide
theorem Prm.p1_okPr : Prm.okPr Prm.p1 = true := by decide
theorem Prm.p2_okPr : Prm.okPr Prm.p2 = false := by decide
theorem Prm.p3_okPr : Prm.okPr Prm.p3 = false := by decide
theorem Prm.p1_enc : Prm.encPr Prm.p1 = [136, 7, 0, 0, 130, 2, 130, 2, 0, 130, 2, 130, 1, 0, 130, 1, 0, 130, 5, 6, 7] := by decide
theorem Prm.wk_flags : Prm.flagsN 1 [2, 2] = 130 := by decide
theorem Prm.wk_exp : Clk.addF (5 : Nat) (7 : Nat) = 12 := by decide
theorem prWorks_c (w : World) (hT : Tabs w) : Calls Tryz.prog 8 #[] w (Ret (.bool true) w) := by
  have HT := Lib.hid hT; clear hT; go_enter Tryz.func8, Tryz.ntmps8
  go_wp2_with fail
  refine (prFirst_c _).mono ?_; rintro en w1 ⟨rfl, hb1⟩; have B1 : Below w.heap.size w w1 := hb1; have X1 : RowAt (w1.alloc (.cells (prC Prm.p1).toArray 28)) w1.heap.size #[.int .u32 0, .int .i64 0, .int .u32 2, .int .u32 0, .int .u32 1, .int .u32 0, .int .u32 0, .int .u32 0, .int .u64 5, .int .u32 6, .int .u64 7] 28 := RowAt.new w1 (prC Prm.p1).toArray 28; have B1b := B1.alloc B1.size (.cells (prC Prm.p1).toArray 28); have HS := Lib.hid B1.size
  go_wp2_with fail
  have hen := prEncode_c Prm.p1 Prm.p1_ok _ (HT.out.up B1b); refine hen.mono ?_; clear hen; rintro en w2 ⟨hb2, hy2, _⟩; obtain ⟨v2, rfl, ho2⟩ := hy2 Prm.p1_okPr; clear hy2; rw [Prm.p1_enc] at ho2; obtain ⟨q2, c2, rfl⟩ := own_slice ho2; have S2 := Lib.hid (Sl.of_own ho2); have HOB := Lib.hid (fun (k : Nat) (hk : (Value.slice q2 21 c2).ownBlock = some k) => (show w1.heap.size < k from by have h := (own_of_some ho2 hk).1; rw [World.size_alloc] at h; omega)); have B2 := below_up B1b hb2; have X2 := X1.below hb2; clear X1 B1b hb1 hb2 ho2; have x0 := X2.cell (i := 0) rfl; have x1 := X2.cell (i := 1) rfl; have x2 := X2.cell (i := 2) rfl; have x3 := X2.cell (i := 3) rfl; have x4 := X2.cell (i := 4) rfl; have x5 := X2.cell (i := 5) rfl; have x6 := X2.cell (i := 6) rfl; have x7 := X2.cell (i := 7) rfl; have x8 := X2.cell (i := 8) rfl; have x9 := X2.cell (i := 9) rfl; have x10 := X2.cell (i := 10) rfl
  have f2 := X2.fz 2; have f3 := X2.fz 3
  go_wp2_with fail
  clear x0 x1 x2 x3 x4 x5 x6 x7 x8 x9 x10 f2 f3; have h1 := X2.set 2 (.int .u32 0); have h2 : RowAt ((w2.setCell ⟨w1.heap.size, 2, none⟩ (.int .u32 0)).setCell ⟨w1.heap.size, 3, none⟩ (.int .u32 0)) w1.heap.size #[.int .u32 0, .int .i64 0, .int .u32 0, .int .u32 0, .int .u32 1, .int .u32 0, .int .u32 0, .int .u32 0, .int .u64 5, .int .u32 6, .int .u64 7] 28 := h1.set 3 (.int .u32 0); have b2 : But (fun j => j = w1.heap.size) w2 ((w2.setCell ⟨w1.heap.size, 2, none⟩ (.int .u32 0)).setCell ⟨w1.heap.size, 3, none⟩ (.int .u32 0)) := (But.setCell (O := fun j => j = w1.heap.size) _ ⟨w1.heap.size, 2, none⟩ _ (.inl rfl)).trans (But.setCell _ _ _ (.inl rfl)); have B3 := B2.trans (b2.below (fun j e => by have := HS.out; omega) B2.size); replace S2 := Lib.hid (S2.out.but b2 (.inr fun k hk e => by have h := HOB.out k hk; omega)); obtain ⟨w3, hw3⟩ : ∃ X, (w2.setCell ⟨w1.heap.size, 2, none⟩ (.int .u32 0)).setCell ⟨w1.heap.size, 3, none⟩ (.int .u32 0) = X := ⟨_, rfl⟩
  rw [hw3] at h2 B3 S2 ⊢; clear h1 b2 hw3 X2 B2; refine ((show Calls Tryz.prog 23 #[prV Prm.p2] w3 (Ret (.int .i64 2) w3) from by have h := prCheck_c Prm.p2 Prm.p2_ok w3; rw [Prm.p2_okPr] at h; exact h)).mono ?_; rintro en w4 ⟨rfl, hb4⟩; have X4 := h2.below hb4; have B4 := below_up B3 hb4; replace S2 := Lib.hid (S2.out.up hb4); clear h2 B3 hb4
  go_wp2_with fail
  refine (prFirst_c _).mono ?_; rintro en w5 ⟨rfl, hb5⟩; have X5 := X4.below hb5; have B5 := below_up B4 hb5; replace S2 := Lib.hid (S2.out.up hb5); clear X4 B4 hb5; have x0 := X5.cell (i := 0) rfl; have x1 := X5.cell (i := 1) rfl; have x2 := X5.cell (i := 2) rfl; have x3 := X5.cell (i := 3) rfl; have x4 := X5.cell (i := 4) rfl; have x5 := X5.cell (i := 5) rfl; have x6 := X5.cell (i := 6) rfl; have x7 := X5.cell (i := 7) rfl; have x8 := X5.cell (i := 8) rfl; have x9 := X5.cell (i := 9) rfl; have x10 := X5.cell (i := 10) rfl; have f0 := X5.fz 0; have f1 := X5.fz 1; have f2 := X5.fz 2; have f3 := X5.fz 3; have f4 := X5.fz 4; have f5 := X5.fz 5; have f6 := X5.fz 6; have f7 := X5.fz 7; have f8 := X5.fz 8; have f9 := X5.fz 9; have f10 := X5.fz 10
  go_wp2_with fail
  clear x0 x1 x2 x3 x4 x5 x6 x7 x8 x9 x10 f0 f1 f2 f3 f4 f5 f6 f7 f8 f9 f10; obtain ⟨h1, b1⟩ := row11 X5 (.int .u32 (Prm.p1.flags : Nat)) (.int .i64 (Prm.p1.sum)) (.int .u32 (Prm.p1.toN : Nat)) (.int .u32 (Prm.p1.toS : Nat)) (.int .u32 (Prm.p1.srN : Nat)) (.int .u32 (Prm.p1.srS : Nat)) (.int .u32 (Prm.p1.rpN : Nat)) (.int .u32 (Prm.p1.rpS : Nat)) (.int .u64 (Prm.p1.time : Nat)) (.int .u32 (Prm.p1.seq : Nat)) (.int .u64 (Prm.p1.life : Nat)); have h2 : RowAt ((((((((((((w5.setCell ⟨w1.heap.size, 0, none⟩ (.int .u32 (Prm.p1.flags : Nat))).setCell ⟨w1.heap.size, 1, none⟩ (.int .i64 (Prm.p1.sum))).setCell ⟨w1.heap.size, 2, none⟩ (.int .u32 (Prm.p1.toN : Nat))).setCell ⟨w1.heap.size, 3, none⟩ (.int .u32 (Prm.p1.toS : Nat))).setCell ⟨w1.heap.size, 4, none⟩ (.int .u32 (Prm.p1.srN : Nat))).setCell ⟨w1.heap.size, 5, none⟩ (.int .u32 (Prm.p1.srS : Nat))).setCell ⟨w1.heap.size, 6, none⟩ (.int .u32 (Prm.p1.rpN : Nat))).setCell ⟨w1.heap.size, 7, none⟩ (.int .u32 (Prm.p1.rpS : Nat))).setCell ⟨w1.heap.size, 8, none⟩ (.int .u64 (Prm.p1.time : Nat))).setCell ⟨w1.heap.size, 9, none⟩ (.int .u32 (Prm.p1.seq : Nat))).setCell ⟨w1.heap.size, 10, none⟩ (.int .u64 (Prm.p1.life : Nat))).setCell ⟨w1.heap.size, 0, none⟩ (.int .u32 384)) w1.heap.size #[.int .u32 384, .int .i64 0, .int .u32 2, .int .u32 0, .int .u32 1, .int .u32 0, .int .u32 0, .int .u32 0, .int .u64 5, .int .u32 6, .int .u64 7] 28 := h1.set 0 (.int .u32 384)
  have b2 : But (fun j => j = w1.heap.size) w5 ((((((((((((w5.setCell ⟨w1.heap.size, 0, none⟩ (.int .u32 (Prm.p1.flags : Nat))).setCell ⟨w1.heap.size, 1, none⟩ (.int .i64 (Prm.p1.sum))).setCell ⟨w1.heap.size, 2, none⟩ (.int .u32 (Prm.p1.toN : Nat))).setCell ⟨w1.heap.size, 3, none⟩ (.int .u32 (Prm.p1.toS : Nat))).setCell ⟨w1.heap.size, 4, none⟩ (.int .u32 (Prm.p1.srN : Nat))).setCell ⟨w1.heap.size, 5, none⟩ (.int .u32 (Prm.p1.srS : Nat))).setCell ⟨w1.heap.size, 6, none⟩ (.int .u32 (Prm.p1.rpN : Nat))).setCell ⟨w1.heap.size, 7, none⟩ (.int .u32 (Prm.p1.rpS : Nat))).setCell ⟨w1.heap.size, 8, none⟩ (.int .u64 (Prm.p1.time : Nat))).setCell ⟨w1.heap.size, 9, none⟩ (.int .u32 (Prm.p1.seq : Nat))).setCell ⟨w1.heap.size, 10, none⟩ (.int .u64 (Prm.p1.life : Nat))).setCell ⟨w1.heap.size, 0, none⟩ (.int .u32 384)) := b1.trans (But.setCell _ _ _ (.inl rfl)); have B6 := B5.trans (b2.below (fun j e => by have := HS.out; omega) B5.size)
  replace S2 := Lib.hid (S2.out.but b2 (.inr fun k hk e => by have h := HOB.out k hk; omega)); obtain ⟨w6, hw6⟩ : ∃ X, ((((((((((((w5.setCell ⟨w1.heap.size, 0, none⟩ (.int .u32 (Prm.p1.flags : Nat))).setCell ⟨w1.heap.size, 1, none⟩ (.int .i64 (Prm.p1.sum))).setCell ⟨w1.heap.size, 2, none⟩ (.int .u32 (Prm.p1.toN : Nat))).setCell ⟨w1.heap.size, 3, none⟩ (.int .u32 (Prm.p1.toS : Nat))).setCell ⟨w1.heap.size, 4, none⟩ (.int .u32 (Prm.p1.srN : Nat))).setCell ⟨w1.heap.size, 5, none⟩ (.int .u32 (Prm.p1.srS : Nat))).setCell ⟨w1.heap.size, 6, none⟩ (.int .u32 (Prm.p1.rpN : Nat))).setCell ⟨w1.heap.size, 7, none⟩ (.int .u32 (Prm.p1.rpS : Nat))).setCell ⟨w1.heap.size, 8, none⟩ (.int .u64 (Prm.p1.time : Nat))).setCell ⟨w1.heap.size, 9, none⟩ (.int .u32 (Prm.p1.seq : Nat))).setCell ⟨w1.heap.size, 10, none⟩ (.int .u64 (Prm.p1.life : Nat))).setCell ⟨w1.heap.size, 0, none⟩ (.int .u32 384)) = X := ⟨_, rfl⟩
  rw [hw6] at h2 B6 S2 ⊢; clear h1 b1 b2 hw6 X5 B5; refine (prNum_c _ _).mono ?_; rintro en wn ⟨rfl, rfl⟩; have hcv : (convert 48 9 (.slice q2 21 c2)).run Tryz.prog w6 = .ok (.string ⟨#[136, 7, 0, 0, 130, 2, 130, 2, 0, 130, 2, 130, 1, 0, 130, 1, 0, 130, 5, 6, 7]⟩) w6 := run_str Tryz.underlying48 Tryz.underlying5 Tryz.underlying9 S2.out; have HX := Lib.hid h2; have HB := Lib.hid B6; clear h2 B6
  go_wp2_with fail
  have hq := below_alloc w6 (.cells #[.int .u32 2, .int .u32 2] 22); have X7 := RowAt.new w6 #[.int .u32 2, .int .u32 2] 22; have hsl : Sl (w6.alloc (.cells #[.int .u32 2, .int .u32 2] 22)) 1 (.slice (some ⟨w6.heap.size, 0, none⟩) 2 2) 2 ([2, 2].map fun q : Nat => Value.int .u32 q) := ⟨rfl, .inr ⟨w6.heap.size, 0, 2, rfl, Nat.le_refl _, by decide, fun j u hj => by rw [Nat.zero_add]; exact X7.cell (by simpa using hj)⟩⟩; have hfl := prFlagsOf_c 1 (by decide) [2, 2] _ _ hsl (by decide); rw [Prm.wk_flags] at hfl; refine hfl.mono ?_; rintro en w7 ⟨rfl, hb7⟩; replace HX := Lib.hid (HX.out.below (below_up hq hb7)); replace HB := Lib.hid (below_up HB.out (below_up hq hb7)); clear hfl hsl X7 hq hb7 hcv
  go_wp2_with fail
  refine ((show Calls Tryz.prog 18 #[prV Prm.p4] w7 (Ret (.int .i64 2) w7) from prRank_c Prm.p4 (by decide) w7)).mono ?_; rintro en w8 ⟨rfl, hb8⟩; replace HX := Lib.hid (HX.out.below hb8); replace HB := Lib.hid (below_up HB.out hb8); clear hb8
  go_wp2_with fail
  refine (prFirst_c _).mono ?_; rintro en w9 ⟨rfl, hb9⟩; replace HX := Lib.hid (HX.out.below hb9); replace HB := Lib.hid (below_up HB.out hb9); clear hb9
  go_wp2_with fail
  refine ((show Calls Tryz.prog 20 #[prV Prm.p1] w9 (Ret (.int .u64 12) w9) from by have h := prExpires_c Prm.p1 w9; rw [show Clk.addF Prm.p1.time Prm.p1.life = 12 from Prm.wk_exp] at h; exact h)).mono ?_; rintro en wa ⟨rfl, hba⟩; replace HX := Lib.hid (HX.out.below hba); replace HB := Lib.hid (below_up HB.out hba); clear hba
  go_wp2_with fail
  refine (prNum_c _ _).mono ?_; rintro en wn ⟨rfl, rfl⟩; have x0 := HX.out.cell (i := 0) rfl; have x1 := HX.out.cell (i := 1) rfl; have x2 := HX.out.cell (i := 2) rfl; have x3 := HX.out.cell (i := 3) rfl; have x4 := HX.out.cell (i := 4) rfl; have x5 := HX.out.cell (i := 5) rfl; have x6 := HX.out.cell (i := 6) rfl; have x7 := HX.out.cell (i := 7) rfl; have x8 := HX.out.cell (i := 8) rfl; have x9 := HX.out.cell (i := 9) rfl; have x10 := HX.out.cell (i := 10) rfl
  go_wp2_with fail
  clear x0 x1 x2 x3 x4 x5 x6 x7 x8 x9 x10; refine ((show Calls Tryz.prog 23 #[prV Prm.p3] wa (Ret (.int .i64 2) wa) from by have h := prCheck_c Prm.p3 Prm.p3_ok wa; rw [Prm.p3_okPr] at h; exact h)).mono ?_; rintro en wb ⟨rfl, hbb⟩; replace HB := Lib.hid (below_up HB.out hbb); clear hbb
  go_wp2_with fail
  refine (prNum_c _ _).mono ?_; rintro en wn ⟨rfl, rfl⟩; go_wp2; go_ret; exact ⟨rfl, HB.out⟩
namespace Prm
end Prm
end Go.Proofs.YtpkonagjnfphkaaGreatDoor
namespace Go.Proofs.YtpkonagjnfphkaaGreatDoor
open Go.RowKit Trc
end Go.Proofs.YtpkonagjnfphkaaGreatDoor
