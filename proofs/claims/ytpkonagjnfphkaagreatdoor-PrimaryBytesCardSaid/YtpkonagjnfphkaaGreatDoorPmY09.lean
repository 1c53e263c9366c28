/-
  CbHf: several texts in one (bundle.py).
-/
import Derived.Test.YtpkonagjnfphkaaGreatDoorPmY08
set_option linter.unusedSimpArgs false
set_option linter.unusedVariables false
set_option maxRecDepth 100000
set_option maxHeartbeats 4000000
namespace Go.Proofs.YtpkonagjnfphkaaGreatDoor
open Go.RowKit Cb
theorem getV_b (l : List UInt8) (h : l.length ≤ 8) : 0 ≤ Oct.getV l ∧ Oct.getV l ≤ 18446744073709551615 := by
  have h1 := Oct.beV_take_b l l.length h; rw [List.take_length] at h1; unfold Oct.getV; split
  · exact ⟨h1.1, by have := h1.2.2; omega⟩
  · exact ⟨by decide, by decide⟩
theorem hd_big0 (w : World) (D : Nat) (v : Value) (f : UInt8) (r : List UInt8) (h : RdAt w D v (f :: r)) (hbl : (f :: r).length ≤ 1000000) (hl : f.toNat % 32 = 24) (hs : 1 ≤ r.length) :
    Calls Tryz.prog 146 #[.pointer (some ⟨D, 0, none⟩)] w (HdE (f :: r) w D) := by
  obtain ⟨a, c, rfl⟩ := h.sl.len; have c0 := h.box.cell (i := 0) (v := .slice a (f :: r).length c) rfl; have hty := take_yes w D _ (f :: r) 1 h (by simp) hbl; have hF := f.toNat_lt; have hsl := h.sl; have hfar := h.far
  have HP := Lib.hid (show headP (f :: r) = if headOk (f :: r) ((f.toNat / 32 : Nat) : Int) (Oct.getV (r.take 1)) (2) then some (((f.toNat / 32 : Nat) : Int), Oct.getV (r.take 1), 2) else none by
    simp only [headP, headN, hl, show ¬ (24 < 24) by decide, show ¬ (28 ≤ 24) by decide, if_false, show 2 ^ (24 - 24) = 1 by decide, if_neg (show ¬ r.length < 1 by omega)])
  have hdm : ((f.toNat / 32 : Nat) : Int) = (f.toNat : Int) / 32 := by omega
  rw [hdm] at HP; rw [show (f :: r).take 1 = [f] by simp, show (f :: r).drop 1 = r by simp, show ((1 : Nat) : Int) = 1 from rfl] at hty
  have hN : (f.toNat : Int) % 32 = 24 := by omega
  have hrl : (f :: r).length = r.length + 1 := by simp
  have hrb : r.length ≤ 1000000 := by omega
  have HDR := Lib.hid (show (f :: r).drop (2) = r.drop 1 from rfl); have hg0 := getV_b (r.take 1) (by rw [List.length_take]; omega)
  have htl : (r.take 1).length = 1 := by rw [List.length_take]; omega
  have hdl : (r.drop 1).length = r.length - 1 := List.length_drop; have HS := Lib.hid hs; clear hs hl; have HRL := Lib.hid hrl; clear hrl; generalize hX : f :: r = b at *; generalize hL : b.length = L at *; go_enter Tryz.func146, Tryz.ntmps146
  go_wp2_with (first
    | (go_at_call 145; with_reducible refine hty.mono ?_; rintro en w1 ⟨u, v', rfl, ho, hR, hb⟩; obtain ⟨au, cu, rfl⟩ := own_slice ho; obtain ⟨g, off, rfl, hcu⟩ := (Sl.of_own ho).cellAt (k := 0) (by decide) (by decide); simp only [Nat.add_zero] at hcu; rw [show (by8 [f])[0]? = some (.int .u8 f.toNat) from rfl] at hcu; have htn := take_yes w1 D _ r 1 hR HS.out hrb; rw [show ((1 : Nat) : Int) = 1 from rfl] at htn; have c1 := hR.box.cell (i := 0) rfl)
    | (go_at_call 145; with_reducible refine htn.mono ?_; rintro en w2 ⟨u2, v2, rfl, ho2, hR2, hb2'⟩; obtain ⟨a2, c2', rfl⟩ := own_slice ho2)
    | (go_at_call 163; refine (get_c (r.take 1) _ _ _ (Sl.of_own ho2)).mono ?_; rintro en w3 ⟨rfl, hb3'⟩)
    | (go_at_call 125; with_reducible refine (must_yes _ _).mono ?_; rintro en w6 ⟨rfl, rfl⟩))
  have hfar2 : L = 0 ∨ ∀ k, (Value.slice a L c).ownBlock = some k → ¬ k = D := hfar.imp id fun h k hk => Nat.ne_of_lt (h k hk)
  have hslO := ((hsl.but hb hfar2).but hb2' hfar2).up hb3'; obtain ⟨ar, cr, hvr⟩ := hR2.sl.len; subst hvr; have hcR := (hR2.box.below hb3').cell (i := 0) rfl; have HR := Lib.hid (hR2.up hb3'); have HB := Lib.hid ((hb.trans hb2').trans (But.of_below hb3'))
  have hM0 : 0 ≤ (f.toNat : Int) / 32 := by omega
  have hM7 : (f.toNat : Int) / 32 ≤ 7 := by omega
  have hN0 := hg0.1; have hN1 := hg0.2; clear hg0 hN hdm hR2 hR hcu ho ho2 htn hty h c0 c1 hF hX hL; generalize (f.toNat : Int) / 32 = M at *; generalize Oct.getV (r.take 1) = N at *; have HRL := Lib.hid (show L = (r.drop 1).length + (2) by have := HRL.out; have := HS.out; omega); clear hdl htl hrb HS; generalize hLR : (r.drop 1).length = LR at *; clear hLR; by_cases hz : Oct.beginsB b (headB M N) = true
  · by_cases he : (headB M N).length = 2
    · have hok : headOk b M N (2) = true := by unfold headOk; rw [hz, he]; simp
      have HP := Lib.hid (show headP b = some (M, N, 2) by rw [HP.out, if_pos hok]); clear hok; refine wp_region_pi [(0, false), (1, false), (2, false), (3, true), (4, true), (5, false), (6, false), (7, false), (8, false), (9, false), (10, false), (11, false), (12, false), (13, false), (14, false), (15, false), (16, true), (17, false), (18, false), (19, false), (20, true)] (by kernel_rfl) (by kernel_rfl) (by kernel_rfl) rfl (fun _ _ d _ _ h => by cases d <;> exact h) (fun Wd hBd => ?_)
      try simp only [zq]
      have c1 : ∀ w', Below Wd.heap.size Wd w' → w'.cell? ⟨D, 0, none⟩ = some (.slice ar LR cr) := fun w' h => cell_up h (cell_up hBd hcR)
      refine zi rfl (by rfl) ?_; refine zi rfl (by rfl) ?_; refine zi rfl (by rfl) ?_; refine pi_call rfl (by rfl) ((head_c M N Wd hM0 hM7 hN0 hN1)) enters_headC (by rfl) (by kernel_rfl) ?_; rintro en wN ⟨v1, rfl, ho1, hb1⟩; obtain ⟨a1, c1', rfl⟩ := own_slice ho1
      have c1 : ∀ w', Below wN.heap.size wN w' → w'.cell? ⟨D, 0, none⟩ = some (.slice ar LR cr) := fun w' h => c1 w' (below_up hb1 h)
      have hslW := (hslO.up hBd).up hb1; refine ⟨_, rfl, hb1, ?_⟩
      try simp only [zq]
      refine pi_call rfl (by rfl) ((begins_c _ (headB M N) _ _ _ _ _ hslW (Sl.of_own ho1) (by omega))) enters_begins (by rfl) (by kernel_rfl) ?_; rintro en wN ⟨rfl, hb2⟩; rw [hz]
      have c1 : ∀ w', Below wN.heap.size wN w' → w'.cell? ⟨D, 0, none⟩ = some (.slice ar LR cr) := fun w' h => c1 w' (below_up hb2 h)
      refine ⟨_, rfl, hb2, ?_⟩
      try simp only [zq]
      iterate 8
        refine zi rfl (by rfl) ?_
      refine pi_q (v := .int .i64 (2 : Int)) rfl (by rfl) (fun w' hBw' => by have hrl := HRL.out; go_simp; rw [wrap_i64 (by omega) (by omega)]; omega) ?_
      try simp only [zq]
      refine zi rfl (by rfl) ?_; refine zi rfl (by rfl) ?_; refine pi_call rfl (by rfl) ((head_c M N _ hM0 hM7 hN0 hN1)) enters_headC (by rfl) (by kernel_rfl) ?_; rintro en wN ⟨v3, rfl, ho3, hb3⟩; obtain ⟨a3, c3', rfl⟩ := own_slice ho3; refine ⟨_, rfl, hb3, ?_⟩
      try simp only [zq]
      refine zi rfl (by rfl) ?_; refine pi_q (v := .bool true) rfl (by rfl) (fun w' hBw' => by have hrl := HRL.out; go_simp; try omega) ?_
      try simp only [zq]
      refine zi rfl (by rfl) ?_; refine pi_call rfl (by rfl) ((must_yes 121 _)) enters_must (by rfl) (by kernel_rfl) ?_; rintro en wN ⟨rfl, rfl⟩; refine ⟨_, rfl, (Below.refl _ _), ?_⟩
      try simp only [zq]
      refine pi_nil ?_; go_wp2; have hbw := below_up (below_up (below_up hBd hb1) hb2) hb3
      have hfin : HdE b w D (.returned (.tuple #[.int .i64 M, .int .u64 N])) wN := by
        refine ⟨HB.out.trans (But.of_below hbw), ?_⟩; rw [HP.out]; exact ⟨rfl, _, by rw [HDR.out]; exact HR.out.up hbw⟩
      go_ret2
      exact hfin
    · have hok : headOk b M N (2) = false := by unfold headOk; rw [hz]; simp [he]
      have HP := Lib.hid (show headP b = none by rw [HP.out, hok]; rfl); clear hok; refine wp_region_pi [(0, false), (1, false), (2, false), (3, true), (4, true), (5, false), (6, false), (7, false), (8, false), (9, false), (10, false), (11, false), (12, false), (13, false), (14, false), (15, false), (16, true), (17, false), (18, false), (19, false), (20, true)] (by kernel_rfl) (by kernel_rfl) (by kernel_rfl) rfl (fun _ _ d _ _ h => by cases d <;> exact h) (fun Wd hBd => ?_)
      try simp only [zq]
      have c1 : ∀ w', Below Wd.heap.size Wd w' → w'.cell? ⟨D, 0, none⟩ = some (.slice ar LR cr) := fun w' h => cell_up h (cell_up hBd hcR)
      refine zi rfl (by rfl) ?_; refine zi rfl (by rfl) ?_; refine zi rfl (by rfl) ?_; refine pi_call rfl (by rfl) ((head_c M N Wd hM0 hM7 hN0 hN1)) enters_headC (by rfl) (by kernel_rfl) ?_; rintro en wN ⟨v1, rfl, ho1, hb1⟩; obtain ⟨a1, c1', rfl⟩ := own_slice ho1
      have c1 : ∀ w', Below wN.heap.size wN w' → w'.cell? ⟨D, 0, none⟩ = some (.slice ar LR cr) := fun w' h => c1 w' (below_up hb1 h)
      have hslW := (hslO.up hBd).up hb1; refine ⟨_, rfl, hb1, ?_⟩
      try simp only [zq]
      refine pi_call rfl (by rfl) ((begins_c _ (headB M N) _ _ _ _ _ hslW (Sl.of_own ho1) (by omega))) enters_begins (by rfl) (by kernel_rfl) ?_; rintro en wN ⟨rfl, hb2⟩; rw [hz]
      have c1 : ∀ w', Below wN.heap.size wN w' → w'.cell? ⟨D, 0, none⟩ = some (.slice ar LR cr) := fun w' h => c1 w' (below_up hb2 h)
      refine ⟨_, rfl, hb2, ?_⟩
      try simp only [zq]
      iterate 8
        refine zi rfl (by rfl) ?_
      refine pi_q (v := .int .i64 (2 : Int)) rfl (by rfl) (fun w' hBw' => by have hrl := HRL.out; go_simp; rw [wrap_i64 (by omega) (by omega)]; omega) ?_
      try simp only [zq]
      refine zi rfl (by rfl) ?_; refine zi rfl (by rfl) ?_; refine pi_call rfl (by rfl) ((head_c M N _ hM0 hM7 hN0 hN1)) enters_headC (by rfl) (by kernel_rfl) ?_; rintro en wN ⟨v3, rfl, ho3, hb3⟩; obtain ⟨a3, c3', rfl⟩ := own_slice ho3; refine ⟨_, rfl, hb3, ?_⟩
      try simp only [zq]
      refine zi rfl (by rfl) ?_; refine pi_q (v := .bool false) rfl (by rfl) (fun w' hBw' => by have hrl := HRL.out; go_simp; try omega) ?_
      try simp only [zq]
      refine zi rfl (by rfl) ?_; refine pi_c rfl (by rfl) (fun K hK => ?_); go_simp
      with_reducible refine (must_no _ _).mono ?_
      rintro en w6 ⟨rfl, rfl⟩; exact ⟨rfl, HB.out.trans (But.of_below (below_up (below_up (below_up hBd hb1) hb2) hb3)), by rw [HP.out]⟩
  · have hz : Oct.beginsB b (headB M N) = false := by simpa using hz
    have hok : headOk b M N (2) = false := by unfold headOk; rw [hz]; rfl
    have HP := Lib.hid (show headP b = none by rw [HP.out, hok]; rfl); clear hok; refine wp_region_pi [(0, false), (1, false), (2, false), (3, true), (4, true), (5, false), (6, false), (7, false), (8, false), (9, false), (10, false), (11, false), (12, false), (13, false), (14, false), (15, false), (16, false), (17, false), (18, false), (19, false), (20, true)] (by kernel_rfl) (by kernel_rfl) (by kernel_rfl) rfl (fun _ _ d _ _ h => by cases d <;> exact h) (fun Wd hBd => ?_)
    try simp only [zq]
    have c1 : ∀ w', Below Wd.heap.size Wd w' → w'.cell? ⟨D, 0, none⟩ = some (.slice ar LR cr) := fun w' h => cell_up h (cell_up hBd hcR)
    refine zi rfl (by rfl) ?_; refine zi rfl (by rfl) ?_; refine zi rfl (by rfl) ?_; refine pi_call rfl (by rfl) ((head_c M N Wd hM0 hM7 hN0 hN1)) enters_headC (by rfl) (by kernel_rfl) ?_; rintro en wN ⟨v1, rfl, ho1, hb1⟩; obtain ⟨a1, c1', rfl⟩ := own_slice ho1
    have c1 : ∀ w', Below wN.heap.size wN w' → w'.cell? ⟨D, 0, none⟩ = some (.slice ar LR cr) := fun w' h => c1 w' (below_up hb1 h)
    have hslW := (hslO.up hBd).up hb1; refine ⟨_, rfl, hb1, ?_⟩
    try simp only [zq]
    refine pi_call rfl (by rfl) ((begins_c _ (headB M N) _ _ _ _ _ hslW (Sl.of_own ho1) (by omega))) enters_begins (by rfl) (by kernel_rfl) ?_; rintro en wN ⟨rfl, hb2⟩; rw [hz]
    have c1 : ∀ w', Below wN.heap.size wN w' → w'.cell? ⟨D, 0, none⟩ = some (.slice ar LR cr) := fun w' h => c1 w' (below_up hb2 h)
    refine ⟨_, rfl, hb2, ?_⟩
    try simp only [zq]
    refine zi rfl (by rfl) ?_
    iterate 13
      refine pi_no rfl (by rfl) ?_
      try simp only [zq]
    refine zi rfl (by rfl) ?_; refine pi_c rfl (by rfl) (fun K hK => ?_); go_simp
    with_reducible refine (must_no _ _).mono ?_
    rintro en w6 ⟨rfl, rfl⟩; exact ⟨rfl, HB.out.trans (But.of_below (below_up (below_up hBd hb1) hb2)), by rw [HP.out]⟩
theorem hd_big1 (w : World) (D : Nat) (v : Value) (f : UInt8) (r : List UInt8) (h : RdAt w D v (f :: r)) (hbl : (f :: r).length ≤ 1000000) (hl : f.toNat % 32 = 25) (hs : 2 ≤ r.length) :
    Calls Tryz.prog 146 #[.pointer (some ⟨D, 0, none⟩)] w (HdE (f :: r) w D) := by
  obtain ⟨a, c, rfl⟩ := h.sl.len; have c0 := h.box.cell (i := 0) (v := .slice a (f :: r).length c) rfl; have hty := take_yes w D _ (f :: r) 1 h (by simp) hbl; have hF := f.toNat_lt; have hsl := h.sl; have hfar := h.far
  have HP := Lib.hid (show headP (f :: r) = if headOk (f :: r) ((f.toNat / 32 : Nat) : Int) (Oct.getV (r.take 2)) (3) then some (((f.toNat / 32 : Nat) : Int), Oct.getV (r.take 2), 3) else none by
    simp only [headP, headN, hl, show ¬ (25 < 24) by decide, show ¬ (28 ≤ 25) by decide, if_false, show 2 ^ (25 - 24) = 2 by decide, if_neg (show ¬ r.length < 2 by omega)])
  have hdm : ((f.toNat / 32 : Nat) : Int) = (f.toNat : Int) / 32 := by omega
  rw [hdm] at HP; rw [show (f :: r).take 1 = [f] by simp, show (f :: r).drop 1 = r by simp, show ((1 : Nat) : Int) = 1 from rfl] at hty
  have hN : (f.toNat : Int) % 32 = 25 := by omega
  have hrl : (f :: r).length = r.length + 1 := by simp
  have hrb : r.length ≤ 1000000 := by omega
  have HDR := Lib.hid (show (f :: r).drop (3) = r.drop 2 from rfl); have hg0 := getV_b (r.take 2) (by rw [List.length_take]; omega)
  have htl : (r.take 2).length = 2 := by rw [List.length_take]; omega
  have hdl : (r.drop 2).length = r.length - 2 := List.length_drop; have HS := Lib.hid hs; clear hs hl; have HRL := Lib.hid hrl; clear hrl; generalize hX : f :: r = b at *; generalize hL : b.length = L at *; go_enter Tryz.func146, Tryz.ntmps146
  go_wp2_with (first
    | (go_at_call 145; with_reducible refine hty.mono ?_; rintro en w1 ⟨u, v', rfl, ho, hR, hb⟩; obtain ⟨au, cu, rfl⟩ := own_slice ho; obtain ⟨g, off, rfl, hcu⟩ := (Sl.of_own ho).cellAt (k := 0) (by decide) (by decide); simp only [Nat.add_zero] at hcu; rw [show (by8 [f])[0]? = some (.int .u8 f.toNat) from rfl] at hcu; have htn := take_yes w1 D _ r 2 hR HS.out hrb; rw [show ((2 : Nat) : Int) = 2 from rfl] at htn; have c1 := hR.box.cell (i := 0) rfl)
    | (go_at_call 145; with_reducible refine htn.mono ?_; rintro en w2 ⟨u2, v2, rfl, ho2, hR2, hb2'⟩; obtain ⟨a2, c2', rfl⟩ := own_slice ho2)
    | (go_at_call 163; refine (get_c (r.take 2) _ _ _ (Sl.of_own ho2)).mono ?_; rintro en w3 ⟨rfl, hb3'⟩)
    | (go_at_call 125; with_reducible refine (must_yes _ _).mono ?_; rintro en w6 ⟨rfl, rfl⟩))
  have hfar2 : L = 0 ∨ ∀ k, (Value.slice a L c).ownBlock = some k → ¬ k = D := hfar.imp id fun h k hk => Nat.ne_of_lt (h k hk)
  have hslO := ((hsl.but hb hfar2).but hb2' hfar2).up hb3'; obtain ⟨ar, cr, hvr⟩ := hR2.sl.len; subst hvr; have hcR := (hR2.box.below hb3').cell (i := 0) rfl; have HR := Lib.hid (hR2.up hb3'); have HB := Lib.hid ((hb.trans hb2').trans (But.of_below hb3'))
  have hM0 : 0 ≤ (f.toNat : Int) / 32 := by omega
  have hM7 : (f.toNat : Int) / 32 ≤ 7 := by omega
  have hN0 := hg0.1; have hN1 := hg0.2; clear hg0 hN hdm hR2 hR hcu ho ho2 htn hty h c0 c1 hF hX hL; generalize (f.toNat : Int) / 32 = M at *; generalize Oct.getV (r.take 2) = N at *; have HRL := Lib.hid (show L = (r.drop 2).length + (3) by have := HRL.out; have := HS.out; omega); clear hdl htl hrb HS; generalize hLR : (r.drop 2).length = LR at *; clear hLR; by_cases hz : Oct.beginsB b (headB M N) = true
  · by_cases he : (headB M N).length = 3
    · have hok : headOk b M N (3) = true := by unfold headOk; rw [hz, he]; simp
      have HP := Lib.hid (show headP b = some (M, N, 3) by rw [HP.out, if_pos hok]); clear hok; refine wp_region_pi [(0, false), (1, false), (2, false), (3, true), (4, true), (5, false), (6, false), (7, false), (8, false), (9, false), (10, false), (11, false), (12, false), (13, false), (14, false), (15, false), (16, true), (17, false), (18, false), (19, false), (20, true)] (by kernel_rfl) (by kernel_rfl) (by kernel_rfl) rfl (fun _ _ d _ _ h => by cases d <;> exact h) (fun Wd hBd => ?_)
      try simp only [zq]
      have c1 : ∀ w', Below Wd.heap.size Wd w' → w'.cell? ⟨D, 0, none⟩ = some (.slice ar LR cr) := fun w' h => cell_up h (cell_up hBd hcR)
      refine zi rfl (by rfl) ?_; refine zi rfl (by rfl) ?_; refine zi rfl (by rfl) ?_; refine pi_call rfl (by rfl) ((head_c M N Wd hM0 hM7 hN0 hN1)) enters_headC (by rfl) (by kernel_rfl) ?_; rintro en wN ⟨v1, rfl, ho1, hb1⟩; obtain ⟨a1, c1', rfl⟩ := own_slice ho1
      have c1 : ∀ w', Below wN.heap.size wN w' → w'.cell? ⟨D, 0, none⟩ = some (.slice ar LR cr) := fun w' h => c1 w' (below_up hb1 h)
      have hslW := (hslO.up hBd).up hb1; refine ⟨_, rfl, hb1, ?_⟩
      try simp only [zq]
      refine pi_call rfl (by rfl) ((begins_c _ (headB M N) _ _ _ _ _ hslW (Sl.of_own ho1) (by omega))) enters_begins (by rfl) (by kernel_rfl) ?_; rintro en wN ⟨rfl, hb2⟩; rw [hz]
      have c1 : ∀ w', Below wN.heap.size wN w' → w'.cell? ⟨D, 0, none⟩ = some (.slice ar LR cr) := fun w' h => c1 w' (below_up hb2 h)
      refine ⟨_, rfl, hb2, ?_⟩
      try simp only [zq]
      iterate 8
        refine zi rfl (by rfl) ?_
      refine pi_q (v := .int .i64 (3 : Int)) rfl (by rfl) (fun w' hBw' => by have hrl := HRL.out; go_simp; rw [wrap_i64 (by omega) (by omega)]; omega) ?_
      try simp only [zq]
      refine zi rfl (by rfl) ?_; refine zi rfl (by rfl) ?_; refine pi_call rfl (by rfl) ((head_c M N _ hM0 hM7 hN0 hN1)) enters_headC (by rfl) (by kernel_rfl) ?_; rintro en wN ⟨v3, rfl, ho3, hb3⟩; obtain ⟨a3, c3', rfl⟩ := own_slice ho3; refine ⟨_, rfl, hb3, ?_⟩
      try simp only [zq]
      refine zi rfl (by rfl) ?_; refine pi_q (v := .bool true) rfl (by rfl) (fun w' hBw' => by have hrl := HRL.out; go_simp; try omega) ?_
      try simp only [zq]
      refine zi rfl (by rfl) ?_; refine pi_call rfl (by rfl) ((must_yes 121 _)) enters_must (by rfl) (by kernel_rfl) ?_; rintro en wN ⟨rfl, rfl⟩; refine ⟨_, rfl, (Below.refl _ _), ?_⟩
      try simp only [zq]
      refine pi_nil ?_; go_wp2; have hbw := below_up (below_up (below_up hBd hb1) hb2) hb3
      have hfin : HdE b w D (.returned (.tuple #[.int .i64 M, .int .u64 N])) wN := by
        refine ⟨HB.out.trans (But.of_below hbw), ?_⟩; rw [HP.out]; exact ⟨rfl, _, by rw [HDR.out]; exact HR.out.up hbw⟩
      go_ret2
      exact hfin
    · have hok : headOk b M N (3) = false := by unfold headOk; rw [hz]; simp [he]
      have HP := Lib.hid (show headP b = none by rw [HP.out, hok]; rfl); clear hok; refine wp_region_pi [(0, false), (1, false), (2, false), (3, true), (4, true), (5, false), (6, false), (7, false), (8, false), (9, false), (10, false), (11, false), (12, false), (13, false), (14, false), (15, false), (16, true), (17, false), (18, false), (19, false), (20, true)] (by kernel_rfl) (by kernel_rfl) (by kernel_rfl) rfl (fun _ _ d _ _ h => by cases d <;> exact h) (fun Wd hBd => ?_)
      try simp only [zq]
      have c1 : ∀ w', Below Wd.heap.size Wd w' → w'.cell? ⟨D, 0, none⟩ = some (.slice ar LR cr) := fun w' h => cell_up h (cell_up hBd hcR)
      refine zi rfl (by rfl) ?_; refine zi rfl (by rfl) ?_; refine zi rfl (by rfl) ?_; refine pi_call rfl (by rfl) ((head_c M N Wd hM0 hM7 hN0 hN1)) enters_headC (by rfl) (by kernel_rfl) ?_; rintro en wN ⟨v1, rfl, ho1, hb1⟩; obtain ⟨a1, c1', rfl⟩ := own_slice ho1
      have c1 : ∀ w', Below wN.heap.size wN w' → w'.cell? ⟨D, 0, none⟩ = some (.slice ar LR cr) := fun w' h => c1 w' (below_up hb1 h)
      have hslW := (hslO.up hBd).up hb1; refine ⟨_, rfl, hb1, ?_⟩
      try simp only [zq]
      refine pi_call rfl (by rfl) ((begins_c _ (headB M N) _ _ _ _ _ hslW (Sl.of_own ho1) (by omega))) enters_begins (by rfl) (by kernel_rfl) ?_; rintro en wN ⟨rfl, hb2⟩; rw [hz]
      have c1 : ∀ w', Below wN.heap.size wN w' → w'.cell? ⟨D, 0, none⟩ = some (.slice ar LR cr) := fun w' h => c1 w' (below_up hb2 h)
      refine ⟨_, rfl, hb2, ?_⟩
      try simp only [zq]
      iterate 8
        refine zi rfl (by rfl) ?_
      refine pi_q (v := .int .i64 (3 : Int)) rfl (by rfl) (fun w' hBw' => by have hrl := HRL.out; go_simp; rw [wrap_i64 (by omega) (by omega)]; omega) ?_
      try simp only [zq]
      refine zi rfl (by rfl) ?_; refine zi rfl (by rfl) ?_; refine pi_call rfl (by rfl) ((head_c M N _ hM0 hM7 hN0 hN1)) enters_headC (by rfl) (by kernel_rfl) ?_; rintro en wN ⟨v3, rfl, ho3, hb3⟩; obtain ⟨a3, c3', rfl⟩ := own_slice ho3; refine ⟨_, rfl, hb3, ?_⟩
      try simp only [zq]
      refine zi rfl (by rfl) ?_; refine pi_q (v := .bool false) rfl (by rfl) (fun w' hBw' => by have hrl := HRL.out; go_simp; try omega) ?_
      try simp only [zq]
      refine zi rfl (by rfl) ?_; refine pi_c rfl (by rfl) (fun K hK => ?_); go_simp
      with_reducible refine (must_no _ _).mono ?_
      rintro en w6 ⟨rfl, rfl⟩; exact ⟨rfl, HB.out.trans (But.of_below (below_up (below_up (below_up hBd hb1) hb2) hb3)), by rw [HP.out]⟩
  · have hz : Oct.beginsB b (headB M N) = false := by simpa using hz
    have hok : headOk b M N (3) = false := by unfold headOk; rw [hz]; rfl
    have HP := Lib.hid (show headP b = none by rw [HP.out, hok]; rfl); clear hok; refine wp_region_pi [(0, false), (1, false), (2, false), (3, true), (4, true), (5, false), (6, false), (7, false), (8, false), (9, false), (10, false), (11, false), (12, false), (13, false), (14, false), (15, false), (16, false), (17, false), (18, false), (19, false), (20, true)] (by kernel_rfl) (by kernel_rfl) (by kernel_rfl) rfl (fun _ _ d _ _ h => by cases d <;> exact h) (fun Wd hBd => ?_)
    try simp only [zq]
    have c1 : ∀ w', Below Wd.heap.size Wd w' → w'.cell? ⟨D, 0, none⟩ = some (.slice ar LR cr) := fun w' h => cell_up h (cell_up hBd hcR)
    refine zi rfl (by rfl) ?_; refine zi rfl (by rfl) ?_; refine zi rfl (by rfl) ?_; refine pi_call rfl (by rfl) ((head_c M N Wd hM0 hM7 hN0 hN1)) enters_headC (by rfl) (by kernel_rfl) ?_; rintro en wN ⟨v1, rfl, ho1, hb1⟩; obtain ⟨a1, c1', rfl⟩ := own_slice ho1
    have c1 : ∀ w', Below wN.heap.size wN w' → w'.cell? ⟨D, 0, none⟩ = some (.slice ar LR cr) := fun w' h => c1 w' (below_up hb1 h)
    have hslW := (hslO.up hBd).up hb1; refine ⟨_, rfl, hb1, ?_⟩
    try simp only [zq]
    refine pi_call rfl (by rfl) ((begins_c _ (headB M N) _ _ _ _ _ hslW (Sl.of_own ho1) (by omega))) enters_begins (by rfl) (by kernel_rfl) ?_; rintro en wN ⟨rfl, hb2⟩; rw [hz]
    have c1 : ∀ w', Below wN.heap.size wN w' → w'.cell? ⟨D, 0, none⟩ = some (.slice ar LR cr) := fun w' h => c1 w' (below_up hb2 h)
    refine ⟨_, rfl, hb2, ?_⟩
    try simp only [zq]
    refine zi rfl (by rfl) ?_
    iterate 13
      refine pi_no rfl (by rfl) ?_
      try simp only [zq]
    refine zi rfl (by rfl) ?_; refine pi_c rfl (by rfl) (fun K hK => ?_); go_simp
    with_reducible refine (must_no _ _).mono ?_
    rintro en w6 ⟨rfl, rfl⟩; exact ⟨rfl, HB.out.trans (But.of_below (below_up (below_up hBd hb1) hb2)), by rw [HP.out]⟩
theorem hd_big2 (w : World) (D : Nat) (v : Value) (f : UInt8) (r : List UInt8) (h : RdAt w D v (f :: r)) (hbl : (f :: r).length ≤ 1000000) (hl : f.toNat % 32 = 26) (hs : 4 ≤ r.length) :
    Calls Tryz.prog 146 #[.pointer (some ⟨D, 0, none⟩)] w (HdE (f :: r) w D) := by
  obtain ⟨a, c, rfl⟩ := h.sl.len; have c0 := h.box.cell (i := 0) (v := .slice a (f :: r).length c) rfl; have hty := take_yes w D _ (f :: r) 1 h (by simp) hbl; have hF := f.toNat_lt; have hsl := h.sl; have hfar := h.far
  have HP := Lib.hid (show headP (f :: r) = if headOk (f :: r) ((f.toNat / 32 : Nat) : Int) (Oct.getV (r.take 4)) (5) then some (((f.toNat / 32 : Nat) : Int), Oct.getV (r.take 4), 5) else none by
    simp only [headP, headN, hl, show ¬ (26 < 24) by decide, show ¬ (28 ≤ 26) by decide, if_false, show 2 ^ (26 - 24) = 4 by decide, if_neg (show ¬ r.length < 4 by omega)])
  have hdm : ((f.toNat / 32 : Nat) : Int) = (f.toNat : Int) / 32 := by omega
  rw [hdm] at HP; rw [show (f :: r).take 1 = [f] by simp, show (f :: r).drop 1 = r by simp, show ((1 : Nat) : Int) = 1 from rfl] at hty
  have hN : (f.toNat : Int) % 32 = 26 := by omega
  have hrl : (f :: r).length = r.length + 1 := by simp
  have hrb : r.length ≤ 1000000 := by omega
  have HDR := Lib.hid (show (f :: r).drop (5) = r.drop 4 from rfl); have hg0 := getV_b (r.take 4) (by rw [List.length_take]; omega)
  have htl : (r.take 4).length = 4 := by rw [List.length_take]; omega
  have hdl : (r.drop 4).length = r.length - 4 := List.length_drop; have HS := Lib.hid hs; clear hs hl; have HRL := Lib.hid hrl; clear hrl; generalize hX : f :: r = b at *; generalize hL : b.length = L at *; go_enter Tryz.func146, Tryz.ntmps146
  go_wp2_with (first
    | (go_at_call 145; with_reducible refine hty.mono ?_; rintro en w1 ⟨u, v', rfl, ho, hR, hb⟩; obtain ⟨au, cu, rfl⟩ := own_slice ho; obtain ⟨g, off, rfl, hcu⟩ := (Sl.of_own ho).cellAt (k := 0) (by decide) (by decide); simp only [Nat.add_zero] at hcu; rw [show (by8 [f])[0]? = some (.int .u8 f.toNat) from rfl] at hcu; have htn := take_yes w1 D _ r 4 hR HS.out hrb; rw [show ((4 : Nat) : Int) = 4 from rfl] at htn; have c1 := hR.box.cell (i := 0) rfl)
    | (go_at_call 145; with_reducible refine htn.mono ?_; rintro en w2 ⟨u2, v2, rfl, ho2, hR2, hb2'⟩; obtain ⟨a2, c2', rfl⟩ := own_slice ho2)
    | (go_at_call 163; refine (get_c (r.take 4) _ _ _ (Sl.of_own ho2)).mono ?_; rintro en w3 ⟨rfl, hb3'⟩)
    | (go_at_call 125; with_reducible refine (must_yes _ _).mono ?_; rintro en w6 ⟨rfl, rfl⟩))
  have hfar2 : L = 0 ∨ ∀ k, (Value.slice a L c).ownBlock = some k → ¬ k = D := hfar.imp id fun h k hk => Nat.ne_of_lt (h k hk)
  have hslO := ((hsl.but hb hfar2).but hb2' hfar2).up hb3'; obtain ⟨ar, cr, hvr⟩ := hR2.sl.len; subst hvr; have hcR := (hR2.box.below hb3').cell (i := 0) rfl; have HR := Lib.hid (hR2.up hb3'); have HB := Lib.hid ((hb.trans hb2').trans (But.of_below hb3'))
  have hM0 : 0 ≤ (f.toNat : Int) / 32 := by omega
  have hM7 : (f.toNat : Int) / 32 ≤ 7 := by omega
  have hN0 := hg0.1; have hN1 := hg0.2; clear hg0 hN hdm hR2 hR hcu ho ho2 htn hty h c0 c1 hF hX hL; generalize (f.toNat : Int) / 32 = M at *; generalize Oct.getV (r.take 4) = N at *; have HRL := Lib.hid (show L = (r.drop 4).length + (5) by have := HRL.out; have := HS.out; omega); clear hdl htl hrb HS; generalize hLR : (r.drop 4).length = LR at *; clear hLR; by_cases hz : Oct.beginsB b (headB M N) = true
  · by_cases he : (headB M N).length = 5
    · have hok : headOk b M N (5) = true := by unfold headOk; rw [hz, he]; simp
      have HP := Lib.hid (show headP b = some (M, N, 5) by rw [HP.out, if_pos hok]); clear hok; refine wp_region_pi [(0, false), (1, false), (2, false), (3, true), (4, true), (5, false), (6, false), (7, false), (8, false), (9, false), (10, false), (11, false), (12, false), (13, false), (14, false), (15, false), (16, true), (17, false), (18, false), (19, false), (20, true)] (by kernel_rfl) (by kernel_rfl) (by kernel_rfl) rfl (fun _ _ d _ _ h => by cases d <;> exact h) (fun Wd hBd => ?_)
      try simp only [zq]
      have c1 : ∀ w', Below Wd.heap.size Wd w' → w'.cell? ⟨D, 0, none⟩ = some (.slice ar LR cr) := fun w' h => cell_up h (cell_up hBd hcR)
      refine zi rfl (by rfl) ?_; refine zi rfl (by rfl) ?_; refine zi rfl (by rfl) ?_; refine pi_call rfl (by rfl) ((head_c M N Wd hM0 hM7 hN0 hN1)) enters_headC (by rfl) (by kernel_rfl) ?_; rintro en wN ⟨v1, rfl, ho1, hb1⟩; obtain ⟨a1, c1', rfl⟩ := own_slice ho1
      have c1 : ∀ w', Below wN.heap.size wN w' → w'.cell? ⟨D, 0, none⟩ = some (.slice ar LR cr) := fun w' h => c1 w' (below_up hb1 h)
      have hslW := (hslO.up hBd).up hb1; refine ⟨_, rfl, hb1, ?_⟩
      try simp only [zq]
      refine pi_call rfl (by rfl) ((begins_c _ (headB M N) _ _ _ _ _ hslW (Sl.of_own ho1) (by omega))) enters_begins (by rfl) (by kernel_rfl) ?_; rintro en wN ⟨rfl, hb2⟩; rw [hz]
      have c1 : ∀ w', Below wN.heap.size wN w' → w'.cell? ⟨D, 0, none⟩ = some (.slice ar LR cr) := fun w' h => c1 w' (below_up hb2 h)
      refine ⟨_, rfl, hb2, ?_⟩
      try simp only [zq]
      iterate 8
        refine zi rfl (by rfl) ?_
      refine pi_q (v := .int .i64 (5 : Int)) rfl (by rfl) (fun w' hBw' => by have hrl := HRL.out; go_simp; rw [wrap_i64 (by omega) (by omega)]; omega) ?_
      try simp only [zq]
      refine zi rfl (by rfl) ?_; refine zi rfl (by rfl) ?_; refine pi_call rfl (by rfl) ((head_c M N _ hM0 hM7 hN0 hN1)) enters_headC (by rfl) (by kernel_rfl) ?_; rintro en wN ⟨v3, rfl, ho3, hb3⟩; obtain ⟨a3, c3', rfl⟩ := own_slice ho3; refine ⟨_, rfl, hb3, ?_⟩
      try simp only [zq]
      refine zi rfl (by rfl) ?_; refine pi_q (v := .bool true) rfl (by rfl) (fun w' hBw' => by have hrl := HRL.out; go_simp; try omega) ?_
      try simp only [zq]
      refine zi rfl (by rfl) ?_; refine pi_call rfl (by rfl) ((must_yes 121 _)) enters_must (by rfl) (by kernel_rfl) ?_; rintro en wN ⟨rfl, rfl⟩; refine ⟨_, rfl, (Below.refl _ _), ?_⟩
      try simp only [zq]
      refine pi_nil ?_; go_wp2; have hbw := below_up (below_up (below_up hBd hb1) hb2) hb3
      have hfin : HdE b w D (.returned (.tuple #[.int .i64 M, .int .u64 N])) wN := by
        refine ⟨HB.out.trans (But.of_below hbw), ?_⟩; rw [HP.out]; exact ⟨rfl, _, by rw [HDR.out]; exact HR.out.up hbw⟩
      go_ret2
      exact hfin
    · have hok : headOk b M N (5) = false := by unfold headOk; rw [hz]; simp [he]
      have HP := Lib.hid (show headP b = none by rw [HP.out, hok]; rfl); clear hok; refine wp_region_pi [(0, false), (1, false), (2, false), (3, true), (4, true), (5, false), (6, false), (7, false), (8, false), (9, false), (10, false), (11, false), (12, false), (13, false), (14, false), (15, false), (16, true), (17, false), (18, false), (19, false), (20, true)] (by kernel_rfl) (by kernel_rfl) (by kernel_rfl) rfl (fun _ _ d _ _ h => by cases d <;> exact h) (fun Wd hBd => ?_)
      try simp only [zq]
      have c1 : ∀ w', Below Wd.heap.size Wd w' → w'.cell? ⟨D, 0, none⟩ = some (.slice ar LR cr) := fun w' h => cell_up h (cell_up hBd hcR)
      refine zi rfl (by rfl) ?_; refine zi rfl (by rfl) ?_; refine zi rfl (by rfl) ?_; refine pi_call rfl (by rfl) ((head_c M N Wd hM0 hM7 hN0 hN1)) enters_headC (by rfl) (by kernel_rfl) ?_; rintro en wN ⟨v1, rfl, ho1, hb1⟩; obtain ⟨a1, c1', rfl⟩ := own_slice ho1
      have c1 : ∀ w', Below wN.heap.size wN w' → w'.cell? ⟨D, 0, none⟩ = some (.slice ar LR cr) := fun w' h => c1 w' (below_up hb1 h)
      have hslW := (hslO.up hBd).up hb1; refine ⟨_, rfl, hb1, ?_⟩
      try simp only [zq]
      refine pi_call rfl (by rfl) ((begins_c _ (headB M N) _ _ _ _ _ hslW (Sl.of_own ho1) (by omega))) enters_begins (by rfl) (by kernel_rfl) ?_; rintro en wN ⟨rfl, hb2⟩; rw [hz]
      have c1 : ∀ w', Below wN.heap.size wN w' → w'.cell? ⟨D, 0, none⟩ = some (.slice ar LR cr) := fun w' h => c1 w' (below_up hb2 h)
      refine ⟨_, rfl, hb2, ?_⟩
      try simp only [zq]
      iterate 8
        refine zi rfl (by rfl) ?_
      refine pi_q (v := .int .i64 (5 : Int)) rfl (by rfl) (fun w' hBw' => by have hrl := HRL.out; go_simp; rw [wrap_i64 (by omega) (by omega)]; omega) ?_
      try simp only [zq]
      refine zi rfl (by rfl) ?_; refine zi rfl (by rfl) ?_; refine pi_call rfl (by rfl) ((head_c M N _ hM0 hM7 hN0 hN1)) enters_headC (by rfl) (by kernel_rfl) ?_; rintro en wN ⟨v3, rfl, ho3, hb3⟩; obtain ⟨a3, c3', rfl⟩ := own_slice ho3; refine ⟨_, rfl, hb3, ?_⟩
      try simp only [zq]
      refine zi rfl (by rfl) ?_; refine pi_q (v := .bool false) rfl (by rfl) (fun w' hBw' => by have hrl := HRL.out; go_simp; try omega) ?_
      try simp only [zq]
      refine zi rfl (by rfl) ?_; refine pi_c rfl (by rfl) (fun K hK => ?_); go_simp
      with_reducible refine (must_no _ _).mono ?_
      rintro en w6 ⟨rfl, rfl⟩; exact ⟨rfl, HB.out.trans (But.of_below (below_up (below_up (below_up hBd hb1) hb2) hb3)), by rw [HP.out]⟩
  · have hz : Oct.beginsB b (headB M N) = false := by simpa using hz
    have hok : headOk b M N (5) = false := by unfold headOk; rw [hz]; rfl
    have HP := Lib.hid (show headP b = none by rw [HP.out, hok]; rfl); clear hok; refine wp_region_pi [(0, false), (1, false), (2, false), (3, true), (4, true), (5, false), (6, false), (7, false), (8, false), (9, false), (10, false), (11, false), (12, false), (13, false), (14, false), (15, false), (16, false), (17, false), (18, false), (19, false), (20, true)] (by kernel_rfl) (by kernel_rfl) (by kernel_rfl) rfl (fun _ _ d _ _ h => by cases d <;> exact h) (fun Wd hBd => ?_)
    try simp only [zq]
    have c1 : ∀ w', Below Wd.heap.size Wd w' → w'.cell? ⟨D, 0, none⟩ = some (.slice ar LR cr) := fun w' h => cell_up h (cell_up hBd hcR)
    refine zi rfl (by rfl) ?_; refine zi rfl (by rfl) ?_; refine zi rfl (by rfl) ?_; refine pi_call rfl (by rfl) ((head_c M N Wd hM0 hM7 hN0 hN1)) enters_headC (by rfl) (by kernel_rfl) ?_; rintro en wN ⟨v1, rfl, ho1, hb1⟩; obtain ⟨a1, c1', rfl⟩ := own_slice ho1
    have c1 : ∀ w', Below wN.heap.size wN w' → w'.cell? ⟨D, 0, none⟩ = some (.slice ar LR cr) := fun w' h => c1 w' (below_up hb1 h)
    have hslW := (hslO.up hBd).up hb1; refine ⟨_, rfl, hb1, ?_⟩
    try simp only [zq]
    refine pi_call rfl (by rfl) ((begins_c _ (headB M N) _ _ _ _ _ hslW (Sl.of_own ho1) (by omega))) enters_begins (by rfl) (by kernel_rfl) ?_; rintro en wN ⟨rfl, hb2⟩; rw [hz]
    have c1 : ∀ w', Below wN.heap.size wN w' → w'.cell? ⟨D, 0, none⟩ = some (.slice ar LR cr) := fun w' h => c1 w' (below_up hb2 h)
    refine ⟨_, rfl, hb2, ?_⟩
    try simp only [zq]
    refine zi rfl (by rfl) ?_
    iterate 13
      refine pi_no rfl (by rfl) ?_
      try simp only [zq]
    refine zi rfl (by rfl) ?_; refine pi_c rfl (by rfl) (fun K hK => ?_); go_simp
    with_reducible refine (must_no _ _).mono ?_
    rintro en w6 ⟨rfl, rfl⟩; exact ⟨rfl, HB.out.trans (But.of_below (below_up (below_up hBd hb1) hb2)), by rw [HP.out]⟩
theorem hd_big3 (w : World) (D : Nat) (v : Value) (f : UInt8) (r : List UInt8) (h : RdAt w D v (f :: r)) (hbl : (f :: r).length ≤ 1000000) (hl : f.toNat % 32 = 27) (hs : 8 ≤ r.length) :
    Calls Tryz.prog 146 #[.pointer (some ⟨D, 0, none⟩)] w (HdE (f :: r) w D) := by
  obtain ⟨a, c, rfl⟩ := h.sl.len; have c0 := h.box.cell (i := 0) (v := .slice a (f :: r).length c) rfl; have hty := take_yes w D _ (f :: r) 1 h (by simp) hbl; have hF := f.toNat_lt; have hsl := h.sl; have hfar := h.far
  have HP := Lib.hid (show headP (f :: r) = if headOk (f :: r) ((f.toNat / 32 : Nat) : Int) (Oct.getV (r.take 8)) (9) then some (((f.toNat / 32 : Nat) : Int), Oct.getV (r.take 8), 9) else none by
    simp only [headP, headN, hl, show ¬ (27 < 24) by decide, show ¬ (28 ≤ 27) by decide, if_false, show 2 ^ (27 - 24) = 8 by decide, if_neg (show ¬ r.length < 8 by omega)])
  have hdm : ((f.toNat / 32 : Nat) : Int) = (f.toNat : Int) / 32 := by omega
  rw [hdm] at HP; rw [show (f :: r).take 1 = [f] by simp, show (f :: r).drop 1 = r by simp, show ((1 : Nat) : Int) = 1 from rfl] at hty
  have hN : (f.toNat : Int) % 32 = 27 := by omega
  have hrl : (f :: r).length = r.length + 1 := by simp
  have hrb : r.length ≤ 1000000 := by omega
  have HDR := Lib.hid (show (f :: r).drop (9) = r.drop 8 from rfl); have hg0 := getV_b (r.take 8) (by rw [List.length_take]; omega)
  have htl : (r.take 8).length = 8 := by rw [List.length_take]; omega
  have hdl : (r.drop 8).length = r.length - 8 := List.length_drop; have HS := Lib.hid hs; clear hs hl; have HRL := Lib.hid hrl; clear hrl; generalize hX : f :: r = b at *; generalize hL : b.length = L at *; go_enter Tryz.func146, Tryz.ntmps146
  go_wp2_with (first
    | (go_at_call 145; with_reducible refine hty.mono ?_; rintro en w1 ⟨u, v', rfl, ho, hR, hb⟩; obtain ⟨au, cu, rfl⟩ := own_slice ho; obtain ⟨g, off, rfl, hcu⟩ := (Sl.of_own ho).cellAt (k := 0) (by decide) (by decide); simp only [Nat.add_zero] at hcu; rw [show (by8 [f])[0]? = some (.int .u8 f.toNat) from rfl] at hcu; have htn := take_yes w1 D _ r 8 hR HS.out hrb; rw [show ((8 : Nat) : Int) = 8 from rfl] at htn; have c1 := hR.box.cell (i := 0) rfl)
    | (go_at_call 145; with_reducible refine htn.mono ?_; rintro en w2 ⟨u2, v2, rfl, ho2, hR2, hb2'⟩; obtain ⟨a2, c2', rfl⟩ := own_slice ho2)
    | (go_at_call 163; refine (get_c (r.take 8) _ _ _ (Sl.of_own ho2)).mono ?_; rintro en w3 ⟨rfl, hb3'⟩)
    | (go_at_call 125; with_reducible refine (must_yes _ _).mono ?_; rintro en w6 ⟨rfl, rfl⟩))
  have hfar2 : L = 0 ∨ ∀ k, (Value.slice a L c).ownBlock = some k → ¬ k = D := hfar.imp id fun h k hk => Nat.ne_of_lt (h k hk)
  have hslO := ((hsl.but hb hfar2).but hb2' hfar2).up hb3'; obtain ⟨ar, cr, hvr⟩ := hR2.sl.len; subst hvr; have hcR := (hR2.box.below hb3').cell (i := 0) rfl; have HR := Lib.hid (hR2.up hb3'); have HB := Lib.hid ((hb.trans hb2').trans (But.of_below hb3'))
  have hM0 : 0 ≤ (f.toNat : Int) / 32 := by omega
  have hM7 : (f.toNat : Int) / 32 ≤ 7 := by omega
  have hN0 := hg0.1; have hN1 := hg0.2; clear hg0 hN hdm hR2 hR hcu ho ho2 htn hty h c0 c1 hF hX hL; generalize (f.toNat : Int) / 32 = M at *; generalize Oct.getV (r.take 8) = N at *; have HRL := Lib.hid (show L = (r.drop 8).length + (9) by have := HRL.out; have := HS.out; omega); clear hdl htl hrb HS; generalize hLR : (r.drop 8).length = LR at *; clear hLR; by_cases hz : Oct.beginsB b (headB M N) = true
  · by_cases he : (headB M N).length = 9
    · have hok : headOk b M N (9) = true := by unfold headOk; rw [hz, he]; simp
      have HP := Lib.hid (show headP b = some (M, N, 9) by rw [HP.out, if_pos hok]); clear hok; refine wp_region_pi [(0, false), (1, false), (2, false), (3, true), (4, true), (5, false), (6, false), (7, false), (8, false), (9, false), (10, false), (11, false), (12, false), (13, false), (14, false), (15, false), (16, true), (17, false), (18, false), (19, false), (20, true)] (by kernel_rfl) (by kernel_rfl) (by kernel_rfl) rfl (fun _ _ d _ _ h => by cases d <;> exact h) (fun Wd hBd => ?_)
      try simp only [zq]
      have c1 : ∀ w', Below Wd.heap.size Wd w' → w'.cell? ⟨D, 0, none⟩ = some (.slice ar LR cr) := fun w' h => cell_up h (cell_up hBd hcR)
      refine zi rfl (by rfl) ?_; refine zi rfl (by rfl) ?_; refine zi rfl (by rfl) ?_; refine pi_call rfl (by rfl) ((head_c M N Wd hM0 hM7 hN0 hN1)) enters_headC (by rfl) (by kernel_rfl) ?_; rintro en wN ⟨v1, rfl, ho1, hb1⟩; obtain ⟨a1, c1', rfl⟩ := own_slice ho1
      have c1 : ∀ w', Below wN.heap.size wN w' → w'.cell? ⟨D, 0, none⟩ = some (.slice ar LR cr) := fun w' h => c1 w' (below_up hb1 h)
      have hslW := (hslO.up hBd).up hb1; refine ⟨_, rfl, hb1, ?_⟩
      try simp only [zq]
      refine pi_call rfl (by rfl) ((begins_c _ (headB M N) _ _ _ _ _ hslW (Sl.of_own ho1) (by omega))) enters_begins (by rfl) (by kernel_rfl) ?_; rintro en wN ⟨rfl, hb2⟩; rw [hz]
      have c1 : ∀ w', Below wN.heap.size wN w' → w'.cell? ⟨D, 0, none⟩ = some (.slice ar LR cr) := fun w' h => c1 w' (below_up hb2 h)
      refine ⟨_, rfl, hb2, ?_⟩
      try simp only [zq]
      iterate 8
        refine zi rfl (by rfl) ?_
      refine pi_q (v := .int .i64 (9 : Int)) rfl (by rfl) (fun w' hBw' => by have hrl := HRL.out; go_simp; rw [wrap_i64 (by omega) (by omega)]; omega) ?_
      try simp only [zq]
      refine zi rfl (by rfl) ?_; refine zi rfl (by rfl) ?_; refine pi_call rfl (by rfl) ((head_c M N _ hM0 hM7 hN0 hN1)) enters_headC (by rfl) (by kernel_rfl) ?_; rintro en wN ⟨v3, rfl, ho3, hb3⟩; obtain ⟨a3, c3', rfl⟩ := own_slice ho3; refine ⟨_, rfl, hb3, ?_⟩
      try simp only [zq]
      refine zi rfl (by rfl) ?_; refine pi_q (v := .bool true) rfl (by rfl) (fun w' hBw' => by have hrl := HRL.out; go_simp; try omega) ?_
      try simp only [zq]
      refine zi rfl (by rfl) ?_; refine pi_call rfl (by rfl) ((must_yes 121 _)) enters_must (by rfl) (by kernel_rfl) ?_; rintro en wN ⟨rfl, rfl⟩; refine ⟨_, rfl, (Below.refl _ _), ?_⟩
      try simp only [zq]
      refine pi_nil ?_; go_wp2; have hbw := below_up (below_up (below_up hBd hb1) hb2) hb3
      have hfin : HdE b w D (.returned (.tuple #[.int .i64 M, .int .u64 N])) wN := by
        refine ⟨HB.out.trans (But.of_below hbw), ?_⟩; rw [HP.out]; exact ⟨rfl, _, by rw [HDR.out]; exact HR.out.up hbw⟩
      go_ret2
      exact hfin
    · have hok : headOk b M N (9) = false := by unfold headOk; rw [hz]; simp [he]
      have HP := Lib.hid (show headP b = none by rw [HP.out, hok]; rfl); clear hok; refine wp_region_pi [(0, false), (1, false), (2, false), (3, true), (4, true), (5, false), (6, false), (7, false), (8, false), (9, false), (10, false), (11, false), (12, false), (13, false), (14, false), (15, false), (16, true), (17, false), (18, false), (19, false), (20, true)] (by kernel_rfl) (by kernel_rfl) (by kernel_rfl) rfl (fun _ _ d _ _ h => by cases d <;> exact h) (fun Wd hBd => ?_)
      try simp only [zq]
      have c1 : ∀ w', Below Wd.heap.size Wd w' → w'.cell? ⟨D, 0, none⟩ = some (.slice ar LR cr) := fun w' h => cell_up h (cell_up hBd hcR)
      refine zi rfl (by rfl) ?_; refine zi rfl (by rfl) ?_; refine zi rfl (by rfl) ?_; refine pi_call rfl (by rfl) ((head_c M N Wd hM0 hM7 hN0 hN1)) enters_headC (by rfl) (by kernel_rfl) ?_; rintro en wN ⟨v1, rfl, ho1, hb1⟩; obtain ⟨a1, c1', rfl⟩ := own_slice ho1
      have c1 : ∀ w', Below wN.heap.size wN w' → w'.cell? ⟨D, 0, none⟩ = some (.slice ar LR cr) := fun w' h => c1 w' (below_up hb1 h)
      have hslW := (hslO.up hBd).up hb1; refine ⟨_, rfl, hb1, ?_⟩
      try simp only [zq]
      refine pi_call rfl (by rfl) ((begins_c _ (headB M N) _ _ _ _ _ hslW (Sl.of_own ho1) (by omega))) enters_begins (by rfl) (by kernel_rfl) ?_; rintro en wN ⟨rfl, hb2⟩; rw [hz]
      have c1 : ∀ w', Below wN.heap.size wN w' → w'.cell? ⟨D, 0, none⟩ = some (.slice ar LR cr) := fun w' h => c1 w' (below_up hb2 h)
      refine ⟨_, rfl, hb2, ?_⟩
      try simp only [zq]
      iterate 8
        refine zi rfl (by rfl) ?_
      refine pi_q (v := .int .i64 (9 : Int)) rfl (by rfl) (fun w' hBw' => by have hrl := HRL.out; go_simp; rw [wrap_i64 (by omega) (by omega)]; omega) ?_
      try simp only [zq]
      refine zi rfl (by rfl) ?_; refine zi rfl (by rfl) ?_; refine pi_call rfl (by rfl) ((head_c M N _ hM0 hM7 hN0 hN1)) enters_headC (by rfl) (by kernel_rfl) ?_; rintro en wN ⟨v3, rfl, ho3, hb3⟩; obtain ⟨a3, c3', rfl⟩ := own_slice ho3; refine ⟨_, rfl, hb3, ?_⟩
      try simp only [zq]
      refine zi rfl (by rfl) ?_; refine pi_q (v := .bool false) rfl (by rfl) (fun w' hBw' => by have hrl := HRL.out; go_simp; try omega) ?_
      try simp only [zq]
      refine zi rfl (by rfl) ?_; refine pi_c rfl (by rfl) (fun K hK => ?_); go_simp
      with_reducible refine (must_no _ _).mono ?_
      rintro en w6 ⟨rfl, rfl⟩; exact ⟨rfl, HB.out.trans (But.of_below (below_up (below_up (below_up hBd hb1) hb2) hb3)), by rw [HP.out]⟩
  · have hz : Oct.beginsB b (headB M N) = false := by simpa using hz
    have hok : headOk b M N (9) = false := by unfold headOk; rw [hz]; rfl
    have HP := Lib.hid (show headP b = none by rw [HP.out, hok]; rfl); clear hok; refine wp_region_pi [(0, false), (1, false), (2, false), (3, true), (4, true), (5, false), (6, false), (7, false), (8, false), (9, false), (10, false), (11, false), (12, false), (13, false), (14, false), (15, false), (16, false), (17, false), (18, false), (19, false), (20, true)] (by kernel_rfl) (by kernel_rfl) (by kernel_rfl) rfl (fun _ _ d _ _ h => by cases d <;> exact h) (fun Wd hBd => ?_)
    try simp only [zq]
    have c1 : ∀ w', Below Wd.heap.size Wd w' → w'.cell? ⟨D, 0, none⟩ = some (.slice ar LR cr) := fun w' h => cell_up h (cell_up hBd hcR)
    refine zi rfl (by rfl) ?_; refine zi rfl (by rfl) ?_; refine zi rfl (by rfl) ?_; refine pi_call rfl (by rfl) ((head_c M N Wd hM0 hM7 hN0 hN1)) enters_headC (by rfl) (by kernel_rfl) ?_; rintro en wN ⟨v1, rfl, ho1, hb1⟩; obtain ⟨a1, c1', rfl⟩ := own_slice ho1
    have c1 : ∀ w', Below wN.heap.size wN w' → w'.cell? ⟨D, 0, none⟩ = some (.slice ar LR cr) := fun w' h => c1 w' (below_up hb1 h)
    have hslW := (hslO.up hBd).up hb1; refine ⟨_, rfl, hb1, ?_⟩
    try simp only [zq]
    refine pi_call rfl (by rfl) ((begins_c _ (headB M N) _ _ _ _ _ hslW (Sl.of_own ho1) (by omega))) enters_begins (by rfl) (by kernel_rfl) ?_; rintro en wN ⟨rfl, hb2⟩; rw [hz]
    have c1 : ∀ w', Below wN.heap.size wN w' → w'.cell? ⟨D, 0, none⟩ = some (.slice ar LR cr) := fun w' h => c1 w' (below_up hb2 h)
    refine ⟨_, rfl, hb2, ?_⟩
    try simp only [zq]
    refine zi rfl (by rfl) ?_
    iterate 13
      refine pi_no rfl (by rfl) ?_
      try simp only [zq]
    refine zi rfl (by rfl) ?_; refine pi_c rfl (by rfl) (fun K hK => ?_); go_simp
    with_reducible refine (must_no _ _).mono ?_
    rintro en w6 ⟨rfl, rfl⟩; exact ⟨rfl, HB.out.trans (But.of_below (below_up (below_up hBd hb1) hb2)), by rw [HP.out]⟩
end Go.Proofs.YtpkonagjnfphkaaGreatDoor
