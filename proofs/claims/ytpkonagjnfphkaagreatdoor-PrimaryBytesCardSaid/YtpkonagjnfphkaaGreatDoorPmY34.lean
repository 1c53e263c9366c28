/-
  PrWb: several texts in one (bundle.py).
-/
import Derived.Test.YtpkonagjnfphkaaGreatDoorPmY31
import Derived.Test.YtpkonagjnfphkaaGreatDoorPmY28
import Derived.Test.YtpkonagjnfphkaaGreatDoorPmY25
import Derived.Test.YtpkonagjnfphkaaGreatDoorPmY33
set_option linter.unusedSimpArgs false
set_option linter.unusedVariables false
set_option maxRecDepth 100000
set_option maxHeartbeats 4000000
namespace Go.Proofs.YtpkonagjnfphkaaGreatDoor
open Go.RowKit Trc Cb
theorem rRightPr_c (p : Prm.Pr) (hp : p.Ok) (w : World) : Calls Tryz.prog 24 #[prV p] w (Ret (.bool (Prm.okPr p)) w) := by
  have X0 := RowAt.new w (prC p).toArray 28; have hB := below_alloc w (.cells (prC p).toArray 28); have x0 := X0.cell (i := 0) rfl; have hfr := rFlagsRight_c p.flags hp.f (w.alloc (.cells (prC p).toArray 28))
  cases hf : Prm.flagsB p.flags with
  | false =>
    have HOK := Lib.hid (show Prm.okPr p = false from by unfold Prm.okPr; rw [hf]; rfl); rw [hf] at hfr; clear hf; go_enter Tryz.func24, Tryz.ntmps24
    go_wp2_with (first
      | (go_at_call 37; refine hfr.mono ?_; rintro en w1 ⟨rfl, hb1⟩; have Y1 := X0.below hb1; have y1 := Y1.cell (i := 1) rfl; have y2 := Y1.cell (i := 2) rfl; have y4 := Y1.cell (i := 4) rfl; have y6 := Y1.cell (i := 6) rfl; have y7 := Y1.cell (i := 7) rfl; have y8 := Y1.cell (i := 8) rfl; have y10 := Y1.cell (i := 10) rfl))
    go_ret; exact ⟨by rw [HOK.out]; rfl, below_up hB hb1⟩
  | true =>
    rw [hf] at hfr; by_cases h2 : 0 ≤ p.sum ∧ p.sum ≤ 2; rotate_left
    · have HOK := Lib.hid (show Prm.okPr p = false from by unfold Prm.okPr; rw [hf, decide_eq_false h2]; simp)
      have hkd : (decide (0 ≤ p.sum) && decide (p.sum ≤ 2)) = false := by rw [Bool.and_eq_false_iff, decide_eq_false_iff_not, decide_eq_false_iff_not]; omega
      clear hf h2; go_enter Tryz.func24, Tryz.ntmps24
      go_wp2_with (first
        | (go_at_call 37; refine hfr.mono ?_; rintro en w1 ⟨rfl, hb1⟩; have Y1 := X0.below hb1; have y1 := Y1.cell (i := 1) rfl; have y2 := Y1.cell (i := 2) rfl; have y4 := Y1.cell (i := 4) rfl; have y6 := Y1.cell (i := 6) rfl; have y7 := Y1.cell (i := 7) rfl; have y8 := Y1.cell (i := 8) rfl; have y10 := Y1.cell (i := 10) rfl)
        | (go_at_call 56; refine (surefKind_c p.sum _).mono ?_; rw [hkd]; rintro en wk ⟨rfl, rfl⟩))
      go_ret; exact ⟨by rw [HOK.out]; rfl, below_up hB hb1⟩
    have hkd : (decide (0 ≤ p.sum) && decide (p.sum ≤ 2)) = true := by rw [Bool.and_eq_true, decide_eq_true_eq, decide_eq_true_eq]; exact h2
    by_cases h3 : 0 < p.toN; rotate_left
    · have HOK := Lib.hid (show Prm.okPr p = false from by unfold Prm.okPr; rw [hf, decide_eq_true h2, decide_eq_false (show ¬ (p.toN ≠ 0 ∧ p.srN ≠ 0) by omega)]; simp)
      have d3 : decide ((0 : Int) < (p.toN : Int)) = false := decide_eq_false (by omega); have d3b : decide (0 < p.toN) = false := decide_eq_false (by omega); clear hf h2 h3; go_enter Tryz.func24, Tryz.ntmps24
      go_wp2_with (first
        | (go_at_call 37; refine hfr.mono ?_; rintro en w1 ⟨rfl, hb1⟩; have Y1 := X0.below hb1; have y1 := Y1.cell (i := 1) rfl; have y2 := Y1.cell (i := 2) rfl; have y4 := Y1.cell (i := 4) rfl; have y6 := Y1.cell (i := 6) rfl; have y7 := Y1.cell (i := 7) rfl; have y8 := Y1.cell (i := 8) rfl; have y10 := Y1.cell (i := 10) rfl)
        | (go_at_call 56; refine (surefKind_c p.sum _).mono ?_; rw [hkd]; rintro en wk ⟨rfl, rfl⟩))
      go_ret; exact ⟨by rw [HOK.out]; rfl, below_up hB hb1⟩
    have d3 : decide ((0 : Int) < (p.toN : Int)) = true := decide_eq_true (by omega); have d3b : decide (0 < p.toN) = true := decide_eq_true (by omega); by_cases h4 : 0 < p.srN; rotate_left
    · have HOK := Lib.hid (show Prm.okPr p = false from by unfold Prm.okPr; rw [hf, decide_eq_true h2, decide_eq_false (show ¬ (p.toN ≠ 0 ∧ p.srN ≠ 0) by omega)]; simp)
      have d4 : decide ((0 : Int) < (p.srN : Int)) = false := decide_eq_false (by omega); have d4b : decide (0 < p.srN) = false := decide_eq_false (by omega); clear hf h2 h3 h4; go_enter Tryz.func24, Tryz.ntmps24
      go_wp2_with (first
        | (go_at_call 37; refine hfr.mono ?_; rintro en w1 ⟨rfl, hb1⟩; have Y1 := X0.below hb1; have y1 := Y1.cell (i := 1) rfl; have y2 := Y1.cell (i := 2) rfl; have y4 := Y1.cell (i := 4) rfl; have y6 := Y1.cell (i := 6) rfl; have y7 := Y1.cell (i := 7) rfl; have y8 := Y1.cell (i := 8) rfl; have y10 := Y1.cell (i := 10) rfl)
        | (go_at_call 56; refine (surefKind_c p.sum _).mono ?_; rw [hkd]; rintro en wk ⟨rfl, rfl⟩))
      go_ret; exact ⟨by rw [HOK.out]; rfl, below_up hB hb1⟩
    have d4 : decide ((0 : Int) < (p.srN : Int)) = true := decide_eq_true (by omega); have d4b : decide (0 < p.srN) = true := decide_eq_true (by omega)
    have h34 : p.toN ≠ 0 ∧ p.srN ≠ 0 := by omega
    by_cases h5 : Dig.chkP p.rpN p.rpS = 0; rotate_left
    · have HOK := Lib.hid (show Prm.okPr p = false from by unfold Prm.okPr; rw [hf, decide_eq_true h2, decide_eq_true h34, decide_eq_false h5]; simp)
      have hrp : decide (Dig.chkP p.rpN p.rpS = 0) = false := decide_eq_false h5; clear hf h2 h3 h4 h34 h5; go_enter Tryz.func24, Tryz.ntmps24
      go_wp2_with (first
        | (go_at_call 37; refine hfr.mono ?_; rintro en w1 ⟨rfl, hb1⟩; have Y1 := X0.below hb1; have y1 := Y1.cell (i := 1) rfl; have y2 := Y1.cell (i := 2) rfl; have y4 := Y1.cell (i := 4) rfl; have y6 := Y1.cell (i := 6) rfl; have y7 := Y1.cell (i := 7) rfl; have y8 := Y1.cell (i := 8) rfl; have y10 := Y1.cell (i := 10) rfl)
        | (go_at_call 56; refine (surefKind_c p.sum _).mono ?_; rw [hkd]; rintro en wk ⟨rfl, rfl⟩)
        | (go_at_call 57; refine (rRight_c p.rpN p.rpS _).mono ?_; rw [hrp]; rintro en w2 ⟨rfl, hb2⟩; have Y2 := Y1.below hb2; have z8 := Y2.cell (i := 8) rfl; have z10 := Y2.cell (i := 10) rfl))
      go_ret; exact ⟨by rw [HOK.out]; rfl, below_up hB (below_up hb1 hb2)⟩
    have hrp : decide (Dig.chkP p.rpN p.rpS = 0) = true := decide_eq_true h5; by_cases h6 : p.time ≤ 4611686018427387903; rotate_left
    · have HOK := Lib.hid (show Prm.okPr p = false from by unfold Prm.okPr; rw [hf, decide_eq_true h2, decide_eq_true h34, decide_eq_true h5, decide_eq_false (show ¬ (p.time ≤ 4611686018427387903 ∧ p.life ≤ 4611686018427387903) by omega)]; simp)
      have d6 : decide ((p.time : Int) ≤ 4611686018427387903) = false := decide_eq_false (by omega); have d6b : decide (p.time ≤ 4611686018427387903) = false := decide_eq_false (by omega); clear hf h2 h3 h4 h34 h5 h6; go_enter Tryz.func24, Tryz.ntmps24
      go_wp2_with (first
        | (go_at_call 37; refine hfr.mono ?_; rintro en w1 ⟨rfl, hb1⟩; have Y1 := X0.below hb1; have y1 := Y1.cell (i := 1) rfl; have y2 := Y1.cell (i := 2) rfl; have y4 := Y1.cell (i := 4) rfl; have y6 := Y1.cell (i := 6) rfl; have y7 := Y1.cell (i := 7) rfl; have y8 := Y1.cell (i := 8) rfl; have y10 := Y1.cell (i := 10) rfl)
        | (go_at_call 56; refine (surefKind_c p.sum _).mono ?_; rw [hkd]; rintro en wk ⟨rfl, rfl⟩)
        | (go_at_call 57; refine (rRight_c p.rpN p.rpS _).mono ?_; rw [hrp]; rintro en w2 ⟨rfl, hb2⟩; have Y2 := Y1.below hb2; have z8 := Y2.cell (i := 8) rfl; have z10 := Y2.cell (i := 10) rfl))
      go_ret; exact ⟨by rw [HOK.out]; rfl, below_up hB (below_up hb1 hb2)⟩
    have d6 : decide ((p.time : Int) ≤ 4611686018427387903) = true := decide_eq_true (by omega); have d6b : decide (p.time ≤ 4611686018427387903) = true := decide_eq_true (by omega); by_cases h7 : p.life ≤ 4611686018427387903; rotate_left
    · have HOK := Lib.hid (show Prm.okPr p = false from by unfold Prm.okPr; rw [hf, decide_eq_true h2, decide_eq_true h34, decide_eq_true h5, decide_eq_false (show ¬ (p.time ≤ 4611686018427387903 ∧ p.life ≤ 4611686018427387903) by omega)]; simp)
      have d7 : decide ((p.life : Int) ≤ 4611686018427387903) = false := decide_eq_false (by omega); have d7b : decide (p.life ≤ 4611686018427387903) = false := decide_eq_false (by omega); clear hf h2 h3 h4 h34 h5 h6 h7; go_enter Tryz.func24, Tryz.ntmps24
      go_wp2_with (first
        | (go_at_call 37; refine hfr.mono ?_; rintro en w1 ⟨rfl, hb1⟩; have Y1 := X0.below hb1; have y1 := Y1.cell (i := 1) rfl; have y2 := Y1.cell (i := 2) rfl; have y4 := Y1.cell (i := 4) rfl; have y6 := Y1.cell (i := 6) rfl; have y7 := Y1.cell (i := 7) rfl; have y8 := Y1.cell (i := 8) rfl; have y10 := Y1.cell (i := 10) rfl)
        | (go_at_call 56; refine (surefKind_c p.sum _).mono ?_; rw [hkd]; rintro en wk ⟨rfl, rfl⟩)
        | (go_at_call 57; refine (rRight_c p.rpN p.rpS _).mono ?_; rw [hrp]; rintro en w2 ⟨rfl, hb2⟩; have Y2 := Y1.below hb2; have z8 := Y2.cell (i := 8) rfl; have z10 := Y2.cell (i := 10) rfl))
      go_ret; exact ⟨by rw [HOK.out]; rfl, below_up hB (below_up hb1 hb2)⟩
    have d7 : decide ((p.life : Int) ≤ 4611686018427387903) = true := decide_eq_true (by omega); have d7b : decide (p.life ≤ 4611686018427387903) = true := decide_eq_true (by omega); have HOK := Lib.hid (show Prm.okPr p = true from by unfold Prm.okPr; rw [hf, decide_eq_true h2, decide_eq_true h34, decide_eq_true h5, decide_eq_true (show p.time ≤ 4611686018427387903 ∧ p.life ≤ 4611686018427387903 from ⟨h6, h7⟩)]; rfl); clear hf h2 h3 h4 h34 h5 h6 h7; go_enter Tryz.func24, Tryz.ntmps24
    go_wp2_with (first
      | (go_at_call 37; refine hfr.mono ?_; rintro en w1 ⟨rfl, hb1⟩; have Y1 := X0.below hb1; have y1 := Y1.cell (i := 1) rfl; have y2 := Y1.cell (i := 2) rfl; have y4 := Y1.cell (i := 4) rfl; have y6 := Y1.cell (i := 6) rfl; have y7 := Y1.cell (i := 7) rfl; have y8 := Y1.cell (i := 8) rfl; have y10 := Y1.cell (i := 10) rfl)
      | (go_at_call 56; refine (surefKind_c p.sum _).mono ?_; rw [hkd]; rintro en wk ⟨rfl, rfl⟩)
      | (go_at_call 57; refine (rRight_c p.rpN p.rpS _).mono ?_; rw [hrp]; rintro en w2 ⟨rfl, hb2⟩; have Y2 := Y1.below hb2; have z8 := Y2.cell (i := 8) rfl; have z10 := Y2.cell (i := 10) rfl))
    go_ret; exact ⟨by rw [HOK.out]; rfl, below_up hB (below_up hb1 hb2)⟩
theorem prOct_c (a : Option Addr) (n c : Nat) (w : World) : Calls Tryz.prog 103 #[.slice a n c] w (Ret (rwV ⟨2, 0, .slice a n c, ⟨#[]⟩, .slice none 0 0⟩) w) := by
  go_enter Tryz.func103, Tryz.ntmps103; go_wp2; refine bodyPost_ret (v := rwV ⟨2, 0, .slice a n c, ⟨#[]⟩, .slice none 0 0⟩) (by simp [results, Tryz.results103, go_sem]) rfl ?_; exact ⟨rfl, below_alloc _ _⟩
theorem Prm.chk_right {x : It} (h : chk x = 0) : rightB x = true := by
  cases hr : rightB x with
  | true => rfl
  | false => unfold chk at h; rw [hr] at h; simp at h
theorem rSealed1 (L : List It) (rows : List Rw) (la : Option Addr) (lc : Nat) (w : World) (hl : Sl w 5 (.slice la L.length lc) L.length (rows.flatMap rwC)) (hI : ItsR (fun j => j < w.heap.size) w L rows) (hL : L.length ≤ 100000)
    (hz : Prm.Wr (Prm.zeroIt 1 L)) (hs : Prm.Wr (Prm.sealIt 1 L)) : Calls Tryz.prog 62 #[.slice la L.length lc, .int .i64 1] w (ByE (bytesOf (Prm.sealIt 1 L)) w) := by
  obtain ⟨bl, hbl⟩ : ∃ bl, bl = Oct.putB (Sum.sumN 1 (bytesOf (Prm.zeroIt 1 L))) (Sum.wd 1) := ⟨_, rfl⟩
  have hpe : Oct.putE ((Sum.sumN 1 (bytesOf (Prm.zeroIt 1 L)) : Nat) : Int) 2 = 0 := by
    have h1 := Sum.put_all (k := 1) (by decide) (bytesOf (Prm.zeroIt 1 L)); have h2 := Sum.sumN_in (k := 1) (by decide) (bytesOf (Prm.zeroIt 1 L)); unfold Oct.putE
    rw [show Oct.okW (2 : Int) = true from rfl, show Oct.fitsB (2 : Int) ((Sum.sumN 1 (bytesOf (Prm.zeroIt 1 L)) : Nat) : Int) = true by
      unfold Oct.fitsB; rw [decide_eq_true_eq]; exact Sum.pow_up h2]
    rfl
  have hblen : bl.length = 2 := by rw [hbl]; exact Prm.put_len (k := 1) _ (by decide)
  have HSI := Lib.hid (show Prm.sealIt 1 L = lI (L ++ [Prm.bI bl]) by unfold Prm.sealIt; rw [if_neg (by decide), hbl])
  have hsum : Sum.sumN 1 (bytesOf (Prm.zeroIt 1 L)) < 4294967296 := by
    have h := Sum.sumN_in (k := 1) (by decide) (bytesOf (Prm.zeroIt 1 L)); have e : 256 ^ Sum.wd 1 = 65536 := rfl; omega
  have HSHP := Lib.hid hI.shp; have HL := Lib.hid hl; have HI := Lib.hid hI; have HZ := Lib.hid hz; have HS := Lib.hid hs; have HBL := Lib.hid hbl; have HPE := Lib.hid hpe; have HLEN := Lib.hid hblen; have HW0 := Lib.hid (World.ownsRow_lit w #[] 0 (size := 5) (e := 62) (Nat.le_refl _) (by decide) rfl); clear hl hI hz hs hbl hpe hblen; obtain ⟨zb, hzb⟩ : ∃ zb, zb = bytesOf (Prm.zeroIt 1 L) := ⟨_, rfl⟩; rw [← hzb] at HBL HPE hsum; have HZB := Lib.hid hzb; clear hzb; obtain ⟨sn, hsn⟩ : ∃ sn, sn = Sum.sumN 1 zb := ⟨_, rfl⟩; rw [← hsn] at HBL HPE hsum; have HSN := Lib.hid hsn; clear hsn
  have hwr : IntKind.u64.wrap (sn : Int) = sn := by rw [IntKind.wrap_u64]; omega
  have HSM := Lib.hid hsum; clear hsum; have HWD := Lib.hid (fun (W : World) => show Calls Tryz.prog 70 #[.int .i64 1] W (fun e w' => e = .returned (.int .i64 2) ∧ W = w') from surefWidth_c 1 (by decide) W); go_enter Tryz.func62, Tryz.ntmps62
  have hmk : ∀ w : World, (Instr.makeSlice 48 (.int .i64 2) (.int .i64 2)).run Tryz.prog w = .ok (.slice (some ⟨w.heap.size, 0, none⟩) 2 2) (w.alloc (.cells #[.int .u8 0, .int .u8 0] 5)) := fun _ => by kernel_rfl
  go_wp2_with (first
    | (at_builtin; refine wpList_app (n := 0) (m := L.length) rfl _ _ 59 rfl slT_items wi.heap.size rfl HW1.out rfl (HL.out.up (below_up Di (below_alloc _ _))) (one_shp HSHP.out) (by simp only [maxLen]; omega) (by omega) (by simp) ?_; intro va2 wj hown1 hgrow1 _; rw [Nat.zero_add, List.nil_append] at hown1; obtain ⟨pj, cj, rfl⟩ := own_slice hown1; have Dj : Below wi.heap.size wi wj := grown_below (below_alloc wi _) hgrow1 (fun k hk => (own_of_some HW1.out hk).1); have HO3 := Lib.hid hown1; clear hown1 hgrow1)
    | (at_builtin; refine wpList_app (n := L.length) (m := 1) rfl _ _ 59 rfl slT_items wi.heap.size rfl (own_up (own_up HO3.out hbk) (below_alloc wk (.cells (rwC ⟨2, 0, .slice pb 2 cb, ⟨#[]⟩, .slice none 0 0⟩).toArray 62))) rfl (sl_new5 wk ⟨2, 0, .slice pb 2 cb, ⟨#[]⟩, .slice none 0 0⟩) (one_rwS _ _ _ _ _ _ _ _ _) (by simp only [maxLen]; omega) (by omega) (Dk.alloc Dk.size _).size ?_; intro vl wl hown2 hgrow2 _; obtain ⟨pwl, cwl, rfl⟩ := own_slice hown2; have Dwl : Below wi.heap.size wi wl := grown_below (Dk.alloc Dk.size _) hgrow2 (fun k hk => (own_of_some (own_up HO3.out hbk) hk).1); have Uwl : Below w.heap.size w wl := below_up Di Dwl; have HZ4 := Lib.hid (((slS_of (S := fun q => q < wi.heap.size) (Sl.of_own HOI.out) (by decide) (fun _ h => h)).up Dwl).mono (fun q hq => Nat.lt_of_lt_of_le hq Dwl.size)); have HIT3 := Lib.hid (its_with (bl := bl) (S := fun k => k < wl.heap.size) ((HI.out.up Uwl).monoP (fun k e => Nat.lt_of_lt_of_le e Uwl.size)) (show SlS (fun k => k < wl.heap.size) wl 1 (.slice pb 2 cb) bl.length (by8 bl) by rw [HLEN.out]; exact HZ4.out) hown2 (fun k _ e => e)); clear hown2 hgrow2)
    | (go_at_call 103; refine (prOct_c _ _ _ _).mono ?_; rintro en wk ⟨rfl, hbk⟩; have Dk := below_up Dj hbk)
    | (go_at_call 28; refine (rList_c _ _ _ _).mono ?_; rintro en wm ⟨rfl, hbm⟩; have HF2 := Lib.hid (HIT3.out.up hbm); have Dm := below_up Uwl hbm)
    | (go_at_call 31; refine (bytesR_c _ _ _ wm HF2.out (by rw [← HSI.out]; exact HS.out.n) (Prm.chk_right (by rw [← HSI.out]; exact HS.out.c))).mono ?_; rintro en wo ⟨vo, rfl, hoo, hbo⟩; have Do := below_up Dm hbo)
    | (at_builtin; refine wpList_app (n := 0) (m := L.length) rfl _ _ 59 rfl slT_items w.heap.size rfl HW0.out rfl (HL.out.up (below_alloc _ _)) (one_shp HSHP.out) (by simp only [maxLen]; omega) (by omega) (by simp) ?_; intro va wa hown1 hgrow1 _; rw [Nat.zero_add, List.nil_append] at hown1; obtain ⟨pa, ca, rfl⟩ := own_slice hown1; have Da : Below w.heap.size w wa := grown_below (below_alloc w _) hgrow1 (fun k hk => (own_of_some HW0.out hk).1); have HO1 := Lib.hid hown1; clear hown1 hgrow1)
    | (go_at_call 70; refine (HWD.out _).mono ?_; rintro en wn ⟨rfl, rfl⟩)
    | (go_at_call 103; refine (prOct_c _ _ _ _).mono ?_; rintro en wc ⟨rfl, hbc⟩; have Dc := below_up (below_alloc wa (.cells #[.int .u8 0, .int .u8 0] 5)) hbc; have HZ1 := Lib.hid (show SlS (fun q => q = wa.heap.size) wc 1 (.slice (some ⟨wa.heap.size, 0, none⟩) 2 2) 2 (by8 (List.replicate 2 0)) from ⟨(Sl.of_own (World.ownsRow_lit wa #[.int .u8 0, .int .u8 0] 2 (size := 1) (e := 5) (Nat.le_refl _) (by decide) rfl)).up hbc, .inr fun k hk => (Option.some.inj hk).symm⟩))
    | (at_builtin; refine wpList_app (n := L.length) (m := 1) rfl _ _ 59 rfl slT_items w.heap.size rfl (own_up (own_up HO1.out Dc) (below_alloc wc (.cells (rwC ⟨2, 0, .slice (some ⟨wa.heap.size, 0, none⟩) 2 2, ⟨#[]⟩, .slice none 0 0⟩).toArray 62))) rfl (sl_new5 wc ⟨2, 0, .slice (some ⟨wa.heap.size, 0, none⟩) 2 2, ⟨#[]⟩, .slice none 0 0⟩) (one_rwS _ _ _ _ _ _ _ _ _) (by simp only [maxLen]; omega) (by omega) ((below_up Da Dc).alloc (below_up Da Dc).size _).size ?_; intro ve we hown2 hgrow2 _; obtain ⟨pwe, cwe, rfl⟩ := own_slice hown2; have Dwe : Below w.heap.size w we := grown_below ((below_up Da Dc).alloc (below_up Da Dc).size _) hgrow2 (fun k hk => (own_of_some (own_up HO1.out Dc) hk).1); have Uwe : Below w.heap.size w we := Dwe; have HZ2 := Lib.hid ((((HZ1.out.up (below_alloc wc (.cells (rwC ⟨2, 0, .slice (some ⟨wa.heap.size, 0, none⟩) 2 2, ⟨#[]⟩, .slice none 0 0⟩).toArray 62))).but (But.grown (O := fun k => (Value.slice pa L.length ca).ownBlock = some k) hgrow2 (fun r hr => .inl hr)) (fun q hq e => by have h9 := (own_of_some HO1.out e).2; omega)).mono (fun q hq => show q < we.heap.size by have h6 := (But.grown (O := fun _ => True) hgrow2 (fun r hr => .inl trivial)).size; have h7 := hbc.size; rw [World.size_alloc] at h6 h7; omega))); have HIT1 := Lib.hid (its_with (S := fun k => k < we.heap.size) ((HI.out.up Uwe).monoP (fun k e => Nat.lt_of_lt_of_le e Uwe.size)) HZ2.out hown2 (fun k _ e => e)); clear hown2 hgrow2)
    | (go_at_call 28; refine (rList_c _ _ _ _).mono ?_; rintro en wf ⟨rfl, hbf⟩; have HF := Lib.hid (HIT1.out.up hbf); have Df := below_up Dwe hbf)
    | (go_at_call 31; refine (bytesR_c _ _ _ wf HF.out HZ.out.n (Prm.chk_right HZ.out.c)).mono ?_; rintro en wg ⟨vg, rfl, hog, hbg⟩; have Dg := below_up Df hbg; have hog : wg.ownsRow wf.heap.size 5 1 vg zb.length (by8 zb) := (by rw [HZB.out]; exact hog); obtain ⟨pg, cg, rfl⟩ := own_slice hog; have hzl : zb.length ≤ 9000000 := (by have h1 := Prm.bytes_le (Prm.zeroIt 1 L); have h2 := HZ.out.n; rw [HZB.out]; omega); have HOG := Lib.hid hog; clear hog)
    | (go_at_call 102; refine (surefOf_c 1 (by decide) zb _ zb.length wg (Sl.of_own HOG.out) (by omega)).mono ?_; rw [← HSN.out]; rintro en wh ⟨rfl, hbh⟩; have Dh := below_up Dg hbh)
    | (go_at_call 104; refine (putR_c (sn : Int) 2 wh (by omega) (by have := HSM.out; omega)).mono ?_; rintro en wi ⟨vi, rfl, hoi, hbi⟩; have Di := below_up Dh hbi; have hoi : wi.ownsRow wh.heap.size 5 1 vi bl.length (by8 bl) := (by rw [HBL.out]; exact hoi); rw [HLEN.out] at hoi; obtain ⟨pb, cb, rfl⟩ := own_slice hoi; have HOI := Lib.hid hoi; have hpe := HPE.out; clear hoi; have HW1 := Lib.hid (World.ownsRow_lit wi #[] 0 (size := 5) (e := 62) (Nat.le_refl _) (by decide) rfl)))
  go_ret; refine ⟨_, rfl, ?_, Do⟩; rw [HSI.out]; exact own_down hoo Dm.size
theorem rSealed2 (L : List It) (rows : List Rw) (la : Option Addr) (lc : Nat) (w : World) (hl : Sl w 5 (.slice la L.length lc) L.length (rows.flatMap rwC)) (hI : ItsR (fun j => j < w.heap.size) w L rows) (hL : L.length ≤ 100000)
    (hz : Prm.Wr (Prm.zeroIt 2 L)) (hs : Prm.Wr (Prm.sealIt 2 L)) : Calls Tryz.prog 62 #[.slice la L.length lc, .int .i64 2] w (ByE (bytesOf (Prm.sealIt 2 L)) w) := by
  obtain ⟨bl, hbl⟩ : ∃ bl, bl = Oct.putB (Sum.sumN 2 (bytesOf (Prm.zeroIt 2 L))) (Sum.wd 2) := ⟨_, rfl⟩
  have hpe : Oct.putE ((Sum.sumN 2 (bytesOf (Prm.zeroIt 2 L)) : Nat) : Int) 4 = 0 := by
    have h1 := Sum.put_all (k := 2) (by decide) (bytesOf (Prm.zeroIt 2 L)); have h2 := Sum.sumN_in (k := 2) (by decide) (bytesOf (Prm.zeroIt 2 L)); unfold Oct.putE
    rw [show Oct.okW (4 : Int) = true from rfl, show Oct.fitsB (4 : Int) ((Sum.sumN 2 (bytesOf (Prm.zeroIt 2 L)) : Nat) : Int) = true by
      unfold Oct.fitsB; rw [decide_eq_true_eq]; exact Sum.pow_up h2]
    rfl
  have hblen : bl.length = 4 := by rw [hbl]; exact Prm.put_len (k := 2) _ (by decide)
  have HSI := Lib.hid (show Prm.sealIt 2 L = lI (L ++ [Prm.bI bl]) by unfold Prm.sealIt; rw [if_neg (by decide), hbl])
  have hsum : Sum.sumN 2 (bytesOf (Prm.zeroIt 2 L)) < 4294967296 := by
    have h := Sum.sumN_in (k := 2) (by decide) (bytesOf (Prm.zeroIt 2 L)); have e : 256 ^ Sum.wd 2 = 4294967296 := rfl; omega
  have HSHP := Lib.hid hI.shp; have HL := Lib.hid hl; have HI := Lib.hid hI; have HZ := Lib.hid hz; have HS := Lib.hid hs; have HBL := Lib.hid hbl; have HPE := Lib.hid hpe; have HLEN := Lib.hid hblen; have HW0 := Lib.hid (World.ownsRow_lit w #[] 0 (size := 5) (e := 62) (Nat.le_refl _) (by decide) rfl); clear hl hI hz hs hbl hpe hblen; obtain ⟨zb, hzb⟩ : ∃ zb, zb = bytesOf (Prm.zeroIt 2 L) := ⟨_, rfl⟩; rw [← hzb] at HBL HPE hsum; have HZB := Lib.hid hzb; clear hzb; obtain ⟨sn, hsn⟩ : ∃ sn, sn = Sum.sumN 2 zb := ⟨_, rfl⟩; rw [← hsn] at HBL HPE hsum; have HSN := Lib.hid hsn; clear hsn
  have hwr : IntKind.u64.wrap (sn : Int) = sn := by rw [IntKind.wrap_u64]; omega
  have HSM := Lib.hid hsum; clear hsum; have HWD := Lib.hid (fun (W : World) => show Calls Tryz.prog 70 #[.int .i64 2] W (fun e w' => e = .returned (.int .i64 4) ∧ W = w') from surefWidth_c 2 (by decide) W); go_enter Tryz.func62, Tryz.ntmps62
  have hmk : ∀ w : World, (Instr.makeSlice 48 (.int .i64 4) (.int .i64 4)).run Tryz.prog w = .ok (.slice (some ⟨w.heap.size, 0, none⟩) 4 4) (w.alloc (.cells #[.int .u8 0, .int .u8 0, .int .u8 0, .int .u8 0] 5)) := fun _ => by kernel_rfl
  go_wp2_with (first
    | (at_builtin; refine wpList_app (n := 0) (m := L.length) rfl _ _ 59 rfl slT_items wi.heap.size rfl HW1.out rfl (HL.out.up (below_up Di (below_alloc _ _))) (one_shp HSHP.out) (by simp only [maxLen]; omega) (by omega) (by simp) ?_; intro va2 wj hown1 hgrow1 _; rw [Nat.zero_add, List.nil_append] at hown1; obtain ⟨pj, cj, rfl⟩ := own_slice hown1; have Dj : Below wi.heap.size wi wj := grown_below (below_alloc wi _) hgrow1 (fun k hk => (own_of_some HW1.out hk).1); have HO3 := Lib.hid hown1; clear hown1 hgrow1)
    | (at_builtin; refine wpList_app (n := L.length) (m := 1) rfl _ _ 59 rfl slT_items wi.heap.size rfl (own_up (own_up HO3.out hbk) (below_alloc wk (.cells (rwC ⟨2, 0, .slice pb 4 cb, ⟨#[]⟩, .slice none 0 0⟩).toArray 62))) rfl (sl_new5 wk ⟨2, 0, .slice pb 4 cb, ⟨#[]⟩, .slice none 0 0⟩) (one_rwS _ _ _ _ _ _ _ _ _) (by simp only [maxLen]; omega) (by omega) (Dk.alloc Dk.size _).size ?_; intro vl wl hown2 hgrow2 _; obtain ⟨pwl, cwl, rfl⟩ := own_slice hown2; have Dwl : Below wi.heap.size wi wl := grown_below (Dk.alloc Dk.size _) hgrow2 (fun k hk => (own_of_some (own_up HO3.out hbk) hk).1); have Uwl : Below w.heap.size w wl := below_up Di Dwl; have HZ4 := Lib.hid (((slS_of (S := fun q => q < wi.heap.size) (Sl.of_own HOI.out) (by decide) (fun _ h => h)).up Dwl).mono (fun q hq => Nat.lt_of_lt_of_le hq Dwl.size)); have HIT3 := Lib.hid (its_with (bl := bl) (S := fun k => k < wl.heap.size) ((HI.out.up Uwl).monoP (fun k e => Nat.lt_of_lt_of_le e Uwl.size)) (show SlS (fun k => k < wl.heap.size) wl 1 (.slice pb 4 cb) bl.length (by8 bl) by rw [HLEN.out]; exact HZ4.out) hown2 (fun k _ e => e)); clear hown2 hgrow2)
    | (go_at_call 103; refine (prOct_c _ _ _ _).mono ?_; rintro en wk ⟨rfl, hbk⟩; have Dk := below_up Dj hbk)
    | (go_at_call 28; refine (rList_c _ _ _ _).mono ?_; rintro en wm ⟨rfl, hbm⟩; have HF2 := Lib.hid (HIT3.out.up hbm); have Dm := below_up Uwl hbm)
    | (go_at_call 31; refine (bytesR_c _ _ _ wm HF2.out (by rw [← HSI.out]; exact HS.out.n) (Prm.chk_right (by rw [← HSI.out]; exact HS.out.c))).mono ?_; rintro en wo ⟨vo, rfl, hoo, hbo⟩; have Do := below_up Dm hbo)
    | (at_builtin; refine wpList_app (n := 0) (m := L.length) rfl _ _ 59 rfl slT_items w.heap.size rfl HW0.out rfl (HL.out.up (below_alloc _ _)) (one_shp HSHP.out) (by simp only [maxLen]; omega) (by omega) (by simp) ?_; intro va wa hown1 hgrow1 _; rw [Nat.zero_add, List.nil_append] at hown1; obtain ⟨pa, ca, rfl⟩ := own_slice hown1; have Da : Below w.heap.size w wa := grown_below (below_alloc w _) hgrow1 (fun k hk => (own_of_some HW0.out hk).1); have HO1 := Lib.hid hown1; clear hown1 hgrow1)
    | (go_at_call 70; refine (HWD.out _).mono ?_; rintro en wn ⟨rfl, rfl⟩)
    | (go_at_call 103; refine (prOct_c _ _ _ _).mono ?_; rintro en wc ⟨rfl, hbc⟩; have Dc := below_up (below_alloc wa (.cells #[.int .u8 0, .int .u8 0, .int .u8 0, .int .u8 0] 5)) hbc; have HZ1 := Lib.hid (show SlS (fun q => q = wa.heap.size) wc 1 (.slice (some ⟨wa.heap.size, 0, none⟩) 4 4) 4 (by8 (List.replicate 4 0)) from ⟨(Sl.of_own (World.ownsRow_lit wa #[.int .u8 0, .int .u8 0, .int .u8 0, .int .u8 0] 4 (size := 1) (e := 5) (Nat.le_refl _) (by decide) rfl)).up hbc, .inr fun k hk => (Option.some.inj hk).symm⟩))
    | (at_builtin; refine wpList_app (n := L.length) (m := 1) rfl _ _ 59 rfl slT_items w.heap.size rfl (own_up (own_up HO1.out Dc) (below_alloc wc (.cells (rwC ⟨2, 0, .slice (some ⟨wa.heap.size, 0, none⟩) 4 4, ⟨#[]⟩, .slice none 0 0⟩).toArray 62))) rfl (sl_new5 wc ⟨2, 0, .slice (some ⟨wa.heap.size, 0, none⟩) 4 4, ⟨#[]⟩, .slice none 0 0⟩) (one_rwS _ _ _ _ _ _ _ _ _) (by simp only [maxLen]; omega) (by omega) ((below_up Da Dc).alloc (below_up Da Dc).size _).size ?_; intro ve we hown2 hgrow2 _; obtain ⟨pwe, cwe, rfl⟩ := own_slice hown2; have Dwe : Below w.heap.size w we := grown_below ((below_up Da Dc).alloc (below_up Da Dc).size _) hgrow2 (fun k hk => (own_of_some (own_up HO1.out Dc) hk).1); have Uwe : Below w.heap.size w we := Dwe; have HZ2 := Lib.hid ((((HZ1.out.up (below_alloc wc (.cells (rwC ⟨2, 0, .slice (some ⟨wa.heap.size, 0, none⟩) 4 4, ⟨#[]⟩, .slice none 0 0⟩).toArray 62))).but (But.grown (O := fun k => (Value.slice pa L.length ca).ownBlock = some k) hgrow2 (fun r hr => .inl hr)) (fun q hq e => by have h9 := (own_of_some HO1.out e).2; omega)).mono (fun q hq => show q < we.heap.size by have h6 := (But.grown (O := fun _ => True) hgrow2 (fun r hr => .inl trivial)).size; have h7 := hbc.size; rw [World.size_alloc] at h6 h7; omega))); have HIT1 := Lib.hid (its_with (S := fun k => k < we.heap.size) ((HI.out.up Uwe).monoP (fun k e => Nat.lt_of_lt_of_le e Uwe.size)) HZ2.out hown2 (fun k _ e => e)); clear hown2 hgrow2)
    | (go_at_call 28; refine (rList_c _ _ _ _).mono ?_; rintro en wf ⟨rfl, hbf⟩; have HF := Lib.hid (HIT1.out.up hbf); have Df := below_up Dwe hbf)
    | (go_at_call 31; refine (bytesR_c _ _ _ wf HF.out HZ.out.n (Prm.chk_right HZ.out.c)).mono ?_; rintro en wg ⟨vg, rfl, hog, hbg⟩; have Dg := below_up Df hbg; have hog : wg.ownsRow wf.heap.size 5 1 vg zb.length (by8 zb) := (by rw [HZB.out]; exact hog); obtain ⟨pg, cg, rfl⟩ := own_slice hog; have hzl : zb.length ≤ 9000000 := (by have h1 := Prm.bytes_le (Prm.zeroIt 2 L); have h2 := HZ.out.n; rw [HZB.out]; omega); have HOG := Lib.hid hog; clear hog)
    | (go_at_call 102; refine (surefOf_c 2 (by decide) zb _ zb.length wg (Sl.of_own HOG.out) (by omega)).mono ?_; rw [← HSN.out]; rintro en wh ⟨rfl, hbh⟩; have Dh := below_up Dg hbh)
    | (go_at_call 104; refine (putR_c (sn : Int) 4 wh (by omega) (by have := HSM.out; omega)).mono ?_; rintro en wi ⟨vi, rfl, hoi, hbi⟩; have Di := below_up Dh hbi; have hoi : wi.ownsRow wh.heap.size 5 1 vi bl.length (by8 bl) := (by rw [HBL.out]; exact hoi); rw [HLEN.out] at hoi; obtain ⟨pb, cb, rfl⟩ := own_slice hoi; have HOI := Lib.hid hoi; have hpe := HPE.out; clear hoi; have HW1 := Lib.hid (World.ownsRow_lit wi #[] 0 (size := 5) (e := 62) (Nat.le_refl _) (by decide) rfl)))
  go_ret; refine ⟨_, rfl, ?_, Do⟩; rw [HSI.out]; exact own_down hoo Dm.size
theorem rSealed0 (L : List It) (rows : List Rw) (la : Option Addr) (lc : Nat) (w : World) (hl : Sl w 5 (.slice la L.length lc) L.length (rows.flatMap rwC)) (hI : ItsR (fun j => j < w.heap.size) w L rows) (hs : Prm.Wr (lI L)) :
    Calls Tryz.prog 62 #[.slice la L.length lc, .int .i64 0] w (ByE (bytesOf (lI L)) w) := by
  have HIT := Lib.hid (it_list hl hI); have HS := Lib.hid hs; clear hl hI hs; go_enter Tryz.func62, Tryz.ntmps62
  go_wp2_with (first
    | (go_at_call 28; refine (rList_c _ _ _ _).mono ?_; rintro en w2 ⟨rfl, hb2⟩; have HF := Lib.hid (HIT.out.up hb2))
    | (go_at_call 31; refine (bytesR_c _ _ _ w2 HF.out HS.out.n (Prm.chk_right HS.out.c)).mono ?_; rintro en w3 ⟨v3, rfl, ho3, hb3⟩))
  go_ret; exact ⟨_, rfl, own_down ho3 hb2.size, below_up hb2 hb3⟩
theorem rSealed_c (k : Nat) (hk : k ≤ 2) (L : List It) (rows : List Rw) (la : Option Addr) (lc : Nat) (w : World) (hl : Sl w 5 (.slice la L.length lc) L.length (rows.flatMap rwC)) (hI : ItsR (fun j => j < w.heap.size) w L rows) (hL : L.length ≤ 100000)
    (hz : Prm.Wr (Prm.zeroIt k L)) (hs : Prm.Wr (Prm.sealIt k L)) : Calls Tryz.prog 62 #[.slice la L.length lc, .int .i64 k] w (ByE (bytesOf (Prm.sealIt k L)) w) := by
  rcases (show k = 0 ∨ k = 1 ∨ k = 2 by omega) with rfl | rfl | rfl
  · exact rSealed0 L rows la lc w hl hI hs
  · exact rSealed1 L rows la lc w hl hI hL hz hs
  · exact rSealed2 L rows la lc w hl hI hL hz hs
theorem rEncode_c (p : Prm.Pr) (hp : p.Ok) (hk : Prm.okPr p = true) (w : World) : Calls Tryz.prog 26 #[prV p] w (ByE (Prm.encPr p) w) := by
  have hks := (Prm.okPr_parts hk).2.1; obtain ⟨k, hkS⟩ : ∃ k : Nat, p.sum = (k : Int) := ⟨p.sum.toNat, by omega⟩
  have hk2 : k ≤ 2 := by omega
  have hkn : p.sum.toNat = k := by omega
  have h1 := Prm.chk_zeroPr hp hks.1 k; have h2 := Prm.chk_sealPr hp hks.1 k; have HWZ := Lib.hid (show Prm.Wr (Prm.zeroIt k (Prm.prL p)) from ⟨h1.1, by omega, h1.2.1.k⟩); have HWS := Lib.hid (show Prm.Wr (Prm.sealIt k (Prm.prL p)) from ⟨h2.1, by omega, h2.2.1.k⟩); have HEN := Lib.hid (show Prm.encPr p = bytesOf (Prm.sealIt k (Prm.prL p)) by unfold Prm.encPr; rw [hkn]); have X0 := RowAt.new w (prC p).toArray 28; have HD0 := Lib.hid (below_alloc w (.cells (prC p).toArray 28)); have HP := Lib.hid hp; have HK := Lib.hid hk; have HK2 := Lib.hid hk2; have HKS := Lib.hid hkS.symm; clear hp hk hks hk2 hkn h1 h2 hkS; go_enter Tryz.func26, Tryz.ntmps26; go_wp2; refine wp_region_ptL (fun _ => False) (.q 0 (.q 2 (.q 3 (.c 1 (.c 4 (.q 5 .done)))))) (by kernel_rfl) (by kernel_rfl) (by kernel_rfl) (by decide) (fun _ _ d _ _ h => by cases d <;> exact h) (fun OPS HOP Wd hBd => ?_)
  try simp only [zq]
  have X1 := X0.below hBd; have PP : RowAt Wd w.heap.size (prC p).toArray 28 := X1; have x1 := X1.cell (i := 1) (v := .int .i64 (k : Int)) (by rw [HKS.out]; rfl); refine pt_load (by rw [← HOP.out]; simp only [zs]; rfl) (by rw [← HOP.out]; kernel_rfl) 28 (.tmp 1) rfl w.heap.size 0 rfl (prC p) _ PP.range (fun h => h) Tryz.underlying28 rfl (by kernel_rfl) ?_
  try simp only [zq]
  refine zo HOP ?_; refine zog HOP (fun w' hBw' => hBw'.cell x1 (fun e => e)) ?_
  refine zd HOP fun K hK => ?_
  go_simp; refine (rItems_c p HP.out HK.out Wd).mono ?_; rintro en w1 ⟨v1, rows, rfl, ho1, hI1, hb1⟩; obtain ⟨p1, c1, rfl⟩ := own_slice ho1; refine hK.out _ _ (But.of_below hb1) ?_; clear hK K
  try simp only [zq]
  refine zd HOP fun K hK => ?_
  go_simp; refine (rSealed_c k HK2.out (Prm.prL p) rows p1 c1 w1 (Sl.of_own ho1) (hI1.monoP (fun k e => e.2)) (by show 8 ≤ 100000; decide) HWZ.out HWS.out).mono ?_; rintro en w2 ⟨v2, rfl, ho2, hb2⟩; refine hK.out _ _ (But.of_below hb2) ?_; clear hK K
  try simp only [zq]
  refine zo HOP ?_; refine pt_done ?_; have HH := Lib.hid (And.intro ho2 (And.intro (below_up hBd hb1) hb2)); clear ho2 hb1 hb2 hBd ho1 hI1 X1 PP x1; go_wp2; go_ret; obtain ⟨ho2, hb1, hb2⟩ := HH.out; have hd := below_up HD0.out hb1; rw [HEN.out]; exact ⟨_, rfl, own_down ho2 hd.size, below_up hd hb2⟩
end Go.Proofs.YtpkonagjnfphkaaGreatDoor
