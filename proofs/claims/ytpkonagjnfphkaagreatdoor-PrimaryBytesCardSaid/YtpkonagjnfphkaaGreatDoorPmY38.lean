/-
  CbRh: several texts in one (bundle.py).
-/
import Derived.Test.YtpkonagjnfphkaaGreatDoorPmY37
import Derived.Test.YtpkonagjnfphkaaGreatDoorPmY09
import Derived.Test.YtpkonagjnfphkaaGreatDoorPmY10
set_option linter.unusedSimpArgs false
set_option linter.unusedVariables false
set_option maxRecDepth 100000
set_option maxHeartbeats 4000000
namespace Go.Proofs.YtpkonagjnfphkaaGreatDoor
open Go.RowKit Cb
def HrE (b : List UInt8) (w : World) (en : Ending) (w' : World) : Prop := Below w.heap.size w w' ∧ en = .returned (match headP b with | none => .tuple #[.int .i64 0, .int .u64 0, .int .i64 0] | some (m, n, k) => .tuple #[.int .i64 m, .int .u64 n, .int .i64 k])
theorem headr_nil (w : World) (v : Value) (hv : Sl w 1 v 0 (by8 [])) : Calls Tryz.prog 150 #[v] w (HrE [] w) := by
  obtain ⟨a, c, rfl⟩ := hv.len; go_enter Tryz.func150, Tryz.ntmps150; go_wp2
  go_ret3
  exact ⟨Below.refl _ _, rfl⟩
theorem headr_low (w : World) (v : Value) (f : UInt8) (r : List UInt8) (L : Nat) (hL : L = r.length + 1) (hv : Sl w 1 v L (by8 (f :: r))) (hbl : L ≤ 1000000) (hl : f.toNat % 32 < 24) : Calls Tryz.prog 150 #[v] w (HrE (f :: r) w) := by
  obtain ⟨a, c, rfl⟩ := hv.len; have HP := Lib.hid (headOk_low f r hl); obtain ⟨g, off, rfl, hcu⟩ := hv.cellAt (k := 0) (by omega) (by omega); simp only [Nat.add_zero] at hcu; rw [show (by8 (f :: r))[0]? = some (.int .u8 f.toNat) from rfl] at hcu; have hF := f.toNat_lt; obtain ⟨M, hM⟩ : ∃ M : Int, ((f.toNat / 32 : Nat) : Int) = M := ⟨_, rfl⟩; obtain ⟨N, hN⟩ : ∃ N : Int, ((f.toNat % 32 : Nat) : Int) = N := ⟨_, rfl⟩; rw [hM, hN] at HP
  have hNN : N < 24 := by omega
  have hN0 : 0 ≤ N := by omega
  have hd : decide (N < 24) = true := decide_eq_true hNN
  have hq : IntKind.i64.wrap ((IntKind.i64.wrap (f.toNat : Int)).tdiv 32) = M := by
    rw [wrap_i64 (x := (f.toNat : Int)) (by omega) (by omega), Int.tdiv_eq_ediv_of_nonneg (by omega), wrap_i64 (by omega) (by omega)]; omega
  have hr : (IntKind.i64.wrap (f.toNat : Int)).tmod 32 = N := by
    rw [wrap_i64 (x := (f.toNat : Int)) (by omega) (by omega), Int.tmod_eq_emod_of_nonneg (by omega)]; omega
  clear hv; go_enter Tryz.func150, Tryz.ntmps150; go_wp2; refine wp_region_pi [(0, false), (1, false), (2, false), (3, false), (4, false), (5, false), (6, false), (7, false), (8, false), (9, false), (10, false), (11, false)] (by kernel_rfl) (by kernel_rfl) (by kernel_rfl) rfl (fun _ _ d _ _ h => by cases d <;> exact h) (fun Wd hBd => ?_)
  try simp only [zq]
  have cWd := cell_up hBd hcu
  iterate 4
    refine zig rfl (by rfl) (fun w' hBw' => cell_up hBw' cWd) ?_
  refine pi_q (v := .int .i64 M) rfl (by rfl) (fun w' hBw' => ?_) ?_
  · first | (go_simp; done) | (go_simp; exact hq)
  try simp only [zq]
  iterate 4
    refine zig rfl (by rfl) (fun w' hBw' => cell_up hBw' cWd) ?_
  refine pi_q (v := .int .i64 N) rfl (by rfl) (fun w' hBw' => ?_) ?_
  · first | (go_simp; done) | (go_simp; exact hr)
  try simp only [zq]
  refine zi rfl (by rfl) ?_; refine zi rfl (by rfl) ?_; refine pi_nil ?_; go_wp2
  go_ret3
  exact ⟨hBd, by rw [HP.out]; rfl⟩
theorem headr_far28 (w : World) (v : Value) (f : UInt8) (r : List UInt8) (L : Nat) (hL : L = r.length + 1) (hv : Sl w 1 v L (by8 (f :: r))) (hbl : L ≤ 1000000) (hl : f.toNat % 32 = 28) : Calls Tryz.prog 150 #[v] w (HrE (f :: r) w) := by
  obtain ⟨a, c, rfl⟩ := hv.len; have HV := Lib.hid hv; have HP := Lib.hid (show headP (f :: r) = none by simp only [headP, headN, hl]; rfl); obtain ⟨g, off, ha, hcu⟩ := hv.cellAt (k := 0) (by omega) (by omega); subst ha; simp only [Nat.add_zero] at hcu; rw [show (by8 (f :: r))[0]? = some (.int .u8 f.toNat) from rfl] at hcu; have hF := f.toNat_lt
  have hM0 : (0 : Int) ≤ ((f.toNat / 32 : Nat) : Int) := by omega
  have hM7 : ((f.toNat / 32 : Nat) : Int) ≤ 7 := by omega
  obtain ⟨M, hM⟩ : ∃ M : Int, ((f.toNat / 32 : Nat) : Int) = M := ⟨_, rfl⟩
  have hq : IntKind.i64.wrap ((IntKind.i64.wrap (f.toNat : Int)).tdiv 32) = M := by
    rw [wrap_i64 (x := (f.toNat : Int)) (by omega) (by omega), Int.tdiv_eq_ediv_of_nonneg (by omega), wrap_i64 (by omega) (by omega)]; omega
  have hr : (IntKind.i64.wrap (f.toNat : Int)).tmod 32 = 28 := by
    rw [wrap_i64 (x := (f.toNat : Int)) (by omega) (by omega), Int.tmod_eq_emod_of_nonneg (by omega)]; omega
  rw [hM] at hM0 hM7; clear hv
  have hLp : 0 < L := by omega
  have hLb : ((L : Int) == 0) = false := by rw [beq_eq_false_iff_ne]; omega
  have HL := Lib.hid hL; clear hL; go_enter Tryz.func150, Tryz.ntmps150; go_wp2; refine wp_region_pi [(0, false), (1, false), (2, false), (3, false), (4, false), (5, false), (6, false), (7, false), (8, false), (9, false), (10, false), (11, false)] (by kernel_rfl) (by kernel_rfl) (by kernel_rfl) rfl (fun _ _ d _ _ h => by cases d <;> exact h) (fun Wd hBd => ?_)
  try simp only [zq]
  have cWd := cell_up hBd hcu
  iterate 4
    refine zig rfl (by rfl) (fun w' hBw' => cell_up hBw' cWd) ?_
  refine pi_q (v := .int .i64 M) rfl (by rfl) (fun w' hBw' => ?_) ?_
  · first | (go_simp; done) | (go_simp; exact hq)
  try simp only [zq]
  iterate 4
    refine zig rfl (by rfl) (fun w' hBw' => cell_up hBw' cWd) ?_
  refine pi_q (v := .int .i64 28) rfl (by rfl) (fun w' hBw' => ?_) ?_
  · first | (go_simp; done) | (go_simp; exact hr)
  try simp only [zq]
  refine zi rfl (by rfl) ?_; refine zi rfl (by rfl) ?_; refine pi_nil ?_; go_wp2
  go_ret3
  refine ⟨?_, by rw [HP.out]; rfl⟩; exact hBd.alloc hBd.size _
theorem headr_far29 (w : World) (v : Value) (f : UInt8) (r : List UInt8) (L : Nat) (hL : L = r.length + 1) (hv : Sl w 1 v L (by8 (f :: r))) (hbl : L ≤ 1000000) (hl : f.toNat % 32 = 29) : Calls Tryz.prog 150 #[v] w (HrE (f :: r) w) := by
  obtain ⟨a, c, rfl⟩ := hv.len; have HV := Lib.hid hv; have HP := Lib.hid (show headP (f :: r) = none by simp only [headP, headN, hl]; rfl); obtain ⟨g, off, ha, hcu⟩ := hv.cellAt (k := 0) (by omega) (by omega); subst ha; simp only [Nat.add_zero] at hcu; rw [show (by8 (f :: r))[0]? = some (.int .u8 f.toNat) from rfl] at hcu; have hF := f.toNat_lt
  have hM0 : (0 : Int) ≤ ((f.toNat / 32 : Nat) : Int) := by omega
  have hM7 : ((f.toNat / 32 : Nat) : Int) ≤ 7 := by omega
  obtain ⟨M, hM⟩ : ∃ M : Int, ((f.toNat / 32 : Nat) : Int) = M := ⟨_, rfl⟩
  have hq : IntKind.i64.wrap ((IntKind.i64.wrap (f.toNat : Int)).tdiv 32) = M := by
    rw [wrap_i64 (x := (f.toNat : Int)) (by omega) (by omega), Int.tdiv_eq_ediv_of_nonneg (by omega), wrap_i64 (by omega) (by omega)]; omega
  have hr : (IntKind.i64.wrap (f.toNat : Int)).tmod 32 = 29 := by
    rw [wrap_i64 (x := (f.toNat : Int)) (by omega) (by omega), Int.tmod_eq_emod_of_nonneg (by omega)]; omega
  rw [hM] at hM0 hM7; clear hv
  have hLp : 0 < L := by omega
  have hLb : ((L : Int) == 0) = false := by rw [beq_eq_false_iff_ne]; omega
  have HL := Lib.hid hL; clear hL; go_enter Tryz.func150, Tryz.ntmps150; go_wp2; refine wp_region_pi [(0, false), (1, false), (2, false), (3, false), (4, false), (5, false), (6, false), (7, false), (8, false), (9, false), (10, false), (11, false)] (by kernel_rfl) (by kernel_rfl) (by kernel_rfl) rfl (fun _ _ d _ _ h => by cases d <;> exact h) (fun Wd hBd => ?_)
  try simp only [zq]
  have cWd := cell_up hBd hcu
  iterate 4
    refine zig rfl (by rfl) (fun w' hBw' => cell_up hBw' cWd) ?_
  refine pi_q (v := .int .i64 M) rfl (by rfl) (fun w' hBw' => ?_) ?_
  · first | (go_simp; done) | (go_simp; exact hq)
  try simp only [zq]
  iterate 4
    refine zig rfl (by rfl) (fun w' hBw' => cell_up hBw' cWd) ?_
  refine pi_q (v := .int .i64 29) rfl (by rfl) (fun w' hBw' => ?_) ?_
  · first | (go_simp; done) | (go_simp; exact hr)
  try simp only [zq]
  refine zi rfl (by rfl) ?_; refine zi rfl (by rfl) ?_; refine pi_nil ?_; go_wp2
  go_ret3
  refine ⟨?_, by rw [HP.out]; rfl⟩; exact hBd.alloc hBd.size _
theorem headr_far30 (w : World) (v : Value) (f : UInt8) (r : List UInt8) (L : Nat) (hL : L = r.length + 1) (hv : Sl w 1 v L (by8 (f :: r))) (hbl : L ≤ 1000000) (hl : f.toNat % 32 = 30) : Calls Tryz.prog 150 #[v] w (HrE (f :: r) w) := by
  obtain ⟨a, c, rfl⟩ := hv.len; have HV := Lib.hid hv; have HP := Lib.hid (show headP (f :: r) = none by simp only [headP, headN, hl]; rfl); obtain ⟨g, off, ha, hcu⟩ := hv.cellAt (k := 0) (by omega) (by omega); subst ha; simp only [Nat.add_zero] at hcu; rw [show (by8 (f :: r))[0]? = some (.int .u8 f.toNat) from rfl] at hcu; have hF := f.toNat_lt
  have hM0 : (0 : Int) ≤ ((f.toNat / 32 : Nat) : Int) := by omega
  have hM7 : ((f.toNat / 32 : Nat) : Int) ≤ 7 := by omega
  obtain ⟨M, hM⟩ : ∃ M : Int, ((f.toNat / 32 : Nat) : Int) = M := ⟨_, rfl⟩
  have hq : IntKind.i64.wrap ((IntKind.i64.wrap (f.toNat : Int)).tdiv 32) = M := by
    rw [wrap_i64 (x := (f.toNat : Int)) (by omega) (by omega), Int.tdiv_eq_ediv_of_nonneg (by omega), wrap_i64 (by omega) (by omega)]; omega
  have hr : (IntKind.i64.wrap (f.toNat : Int)).tmod 32 = 30 := by
    rw [wrap_i64 (x := (f.toNat : Int)) (by omega) (by omega), Int.tmod_eq_emod_of_nonneg (by omega)]; omega
  rw [hM] at hM0 hM7; clear hv
  have hLp : 0 < L := by omega
  have hLb : ((L : Int) == 0) = false := by rw [beq_eq_false_iff_ne]; omega
  have HL := Lib.hid hL; clear hL; go_enter Tryz.func150, Tryz.ntmps150; go_wp2; refine wp_region_pi [(0, false), (1, false), (2, false), (3, false), (4, false), (5, false), (6, false), (7, false), (8, false), (9, false), (10, false), (11, false)] (by kernel_rfl) (by kernel_rfl) (by kernel_rfl) rfl (fun _ _ d _ _ h => by cases d <;> exact h) (fun Wd hBd => ?_)
  try simp only [zq]
  have cWd := cell_up hBd hcu
  iterate 4
    refine zig rfl (by rfl) (fun w' hBw' => cell_up hBw' cWd) ?_
  refine pi_q (v := .int .i64 M) rfl (by rfl) (fun w' hBw' => ?_) ?_
  · first | (go_simp; done) | (go_simp; exact hq)
  try simp only [zq]
  iterate 4
    refine zig rfl (by rfl) (fun w' hBw' => cell_up hBw' cWd) ?_
  refine pi_q (v := .int .i64 30) rfl (by rfl) (fun w' hBw' => ?_) ?_
  · first | (go_simp; done) | (go_simp; exact hr)
  try simp only [zq]
  refine zi rfl (by rfl) ?_; refine zi rfl (by rfl) ?_; refine pi_nil ?_; go_wp2
  go_ret3
  refine ⟨?_, by rw [HP.out]; rfl⟩; exact hBd.alloc hBd.size _
theorem headr_far31 (w : World) (v : Value) (f : UInt8) (r : List UInt8) (L : Nat) (hL : L = r.length + 1) (hv : Sl w 1 v L (by8 (f :: r))) (hbl : L ≤ 1000000) (hl : f.toNat % 32 = 31) : Calls Tryz.prog 150 #[v] w (HrE (f :: r) w) := by
  obtain ⟨a, c, rfl⟩ := hv.len; have HV := Lib.hid hv; have HP := Lib.hid (show headP (f :: r) = none by simp only [headP, headN, hl]; rfl); obtain ⟨g, off, ha, hcu⟩ := hv.cellAt (k := 0) (by omega) (by omega); subst ha; simp only [Nat.add_zero] at hcu; rw [show (by8 (f :: r))[0]? = some (.int .u8 f.toNat) from rfl] at hcu; have hF := f.toNat_lt
  have hM0 : (0 : Int) ≤ ((f.toNat / 32 : Nat) : Int) := by omega
  have hM7 : ((f.toNat / 32 : Nat) : Int) ≤ 7 := by omega
  obtain ⟨M, hM⟩ : ∃ M : Int, ((f.toNat / 32 : Nat) : Int) = M := ⟨_, rfl⟩
  have hq : IntKind.i64.wrap ((IntKind.i64.wrap (f.toNat : Int)).tdiv 32) = M := by
    rw [wrap_i64 (x := (f.toNat : Int)) (by omega) (by omega), Int.tdiv_eq_ediv_of_nonneg (by omega), wrap_i64 (by omega) (by omega)]; omega
  have hr : (IntKind.i64.wrap (f.toNat : Int)).tmod 32 = 31 := by
    rw [wrap_i64 (x := (f.toNat : Int)) (by omega) (by omega), Int.tmod_eq_emod_of_nonneg (by omega)]; omega
  rw [hM] at hM0 hM7; clear hv
  have hLp : 0 < L := by omega
  have hLb : ((L : Int) == 0) = false := by rw [beq_eq_false_iff_ne]; omega
  have HL := Lib.hid hL; clear hL; go_enter Tryz.func150, Tryz.ntmps150; go_wp2; refine wp_region_pi [(0, false), (1, false), (2, false), (3, false), (4, false), (5, false), (6, false), (7, false), (8, false), (9, false), (10, false), (11, false)] (by kernel_rfl) (by kernel_rfl) (by kernel_rfl) rfl (fun _ _ d _ _ h => by cases d <;> exact h) (fun Wd hBd => ?_)
  try simp only [zq]
  have cWd := cell_up hBd hcu
  iterate 4
    refine zig rfl (by rfl) (fun w' hBw' => cell_up hBw' cWd) ?_
  refine pi_q (v := .int .i64 M) rfl (by rfl) (fun w' hBw' => ?_) ?_
  · first | (go_simp; done) | (go_simp; exact hq)
  try simp only [zq]
  iterate 4
    refine zig rfl (by rfl) (fun w' hBw' => cell_up hBw' cWd) ?_
  refine pi_q (v := .int .i64 31) rfl (by rfl) (fun w' hBw' => ?_) ?_
  · first | (go_simp; done) | (go_simp; exact hr)
  try simp only [zq]
  refine zi rfl (by rfl) ?_; refine zi rfl (by rfl) ?_; refine pi_nil ?_; go_wp2
  go_ret3
  refine ⟨?_, by rw [HP.out]; rfl⟩; exact hBd.alloc hBd.size _
theorem headr_short0 (w : World) (v : Value) (f : UInt8) (r : List UInt8) (L : Nat) (hL : L = r.length + 1) (hv : Sl w 1 v L (by8 (f :: r))) (hbl : L ≤ 1000000) (hl : f.toNat % 32 = 24) (hs : L < 1 + 1) : Calls Tryz.prog 150 #[v] w (HrE (f :: r) w) := by
  obtain ⟨a, c, rfl⟩ := hv.len; have HV := Lib.hid hv; have HP := Lib.hid (show headP (f :: r) = none by simp only [headP, headN, hl]; rw [if_neg (by decide), if_neg (by decide), if_pos (by show r.length < 1; omega)]); obtain ⟨g, off, ha, hcu⟩ := hv.cellAt (k := 0) (by omega) (by omega); subst ha; simp only [Nat.add_zero] at hcu; rw [show (by8 (f :: r))[0]? = some (.int .u8 f.toNat) from rfl] at hcu; have hF := f.toNat_lt
  have hM0 : (0 : Int) ≤ ((f.toNat / 32 : Nat) : Int) := by omega
  have hM7 : ((f.toNat / 32 : Nat) : Int) ≤ 7 := by omega
  obtain ⟨M, hM⟩ : ∃ M : Int, ((f.toNat / 32 : Nat) : Int) = M := ⟨_, rfl⟩
  have hq : IntKind.i64.wrap ((IntKind.i64.wrap (f.toNat : Int)).tdiv 32) = M := by
    rw [wrap_i64 (x := (f.toNat : Int)) (by omega) (by omega), Int.tdiv_eq_ediv_of_nonneg (by omega), wrap_i64 (by omega) (by omega)]; omega
  have hr : (IntKind.i64.wrap (f.toNat : Int)).tmod 32 = 24 := by
    rw [wrap_i64 (x := (f.toNat : Int)) (by omega) (by omega), Int.tmod_eq_emod_of_nonneg (by omega)]; omega
  rw [hM] at hM0 hM7; have hd : decide ((L : Int) < 2) = true := decide_eq_true (by omega); clear hv
  have hLp : 0 < L := by omega
  have hLb : ((L : Int) == 0) = false := by rw [beq_eq_false_iff_ne]; omega
  have HL := Lib.hid hL; clear hL; go_enter Tryz.func150, Tryz.ntmps150; go_wp2; refine wp_region_pi [(0, false), (1, false), (2, false), (3, false), (4, false), (5, false), (6, false), (7, false), (8, false), (9, false), (10, false), (11, false)] (by kernel_rfl) (by kernel_rfl) (by kernel_rfl) rfl (fun _ _ d _ _ h => by cases d <;> exact h) (fun Wd hBd => ?_)
  try simp only [zq]
  have cWd := cell_up hBd hcu
  iterate 4
    refine zig rfl (by rfl) (fun w' hBw' => cell_up hBw' cWd) ?_
  refine pi_q (v := .int .i64 M) rfl (by rfl) (fun w' hBw' => ?_) ?_
  · first | (go_simp; done) | (go_simp; exact hq)
  try simp only [zq]
  iterate 4
    refine zig rfl (by rfl) (fun w' hBw' => cell_up hBw' cWd) ?_
  refine pi_q (v := .int .i64 24) rfl (by rfl) (fun w' hBw' => ?_) ?_
  · first | (go_simp; done) | (go_simp; exact hr)
  try simp only [zq]
  refine zi rfl (by rfl) ?_; refine zi rfl (by rfl) ?_; refine pi_nil ?_; go_wp2
  go_ret3
  refine ⟨?_, by rw [HP.out]; rfl⟩; exact hBd.alloc hBd.size _
theorem headr_big0 (w : World) (v : Value) (f : UInt8) (r : List UInt8) (L : Nat) (hL : L = r.length + 1) (hv : Sl w 1 v L (by8 (f :: r))) (hbl : L ≤ 1000000) (hl : f.toNat % 32 = 24) (hs : 1 + 1 ≤ L) : Calls Tryz.prog 150 #[v] w (HrE (f :: r) w) := by
  obtain ⟨a, c, rfl⟩ := hv.len; have HV := Lib.hid hv
  have hHP : headP (f :: r) = if headOk (f :: r) ((f.toNat / 32 : Nat) : Int) (Oct.getV (r.take 1)) (1 + 1) then some (((f.toNat / 32 : Nat) : Int), Oct.getV (r.take 1), 1 + 1) else none := by
    simp only [headP, headN, hl]; rw [if_neg (by decide), if_neg (by decide), if_neg (by show ¬ r.length < 1; omega)]
  rw [headOk_iff (by rw [List.length_cons]; omega)] at hHP; obtain ⟨g, off, ha, hcu⟩ := hv.cellAt (k := 0) (by omega) (by omega); subst ha; simp only [Nat.add_zero] at hcu; rw [show (by8 (f :: r))[0]? = some (.int .u8 f.toNat) from rfl] at hcu; have hF := f.toNat_lt
  have hM0 : (0 : Int) ≤ ((f.toNat / 32 : Nat) : Int) := by omega
  have hM7 : ((f.toNat / 32 : Nat) : Int) ≤ 7 := by omega
  obtain ⟨M, hM⟩ : ∃ M : Int, ((f.toNat / 32 : Nat) : Int) = M := ⟨_, rfl⟩
  have hq : IntKind.i64.wrap ((IntKind.i64.wrap (f.toNat : Int)).tdiv 32) = M := by
    rw [wrap_i64 (x := (f.toNat : Int)) (by omega) (by omega), Int.tdiv_eq_ediv_of_nonneg (by omega), wrap_i64 (by omega) (by omega)]; omega
  have hr : (IntKind.i64.wrap (f.toNat : Int)).tmod 32 = 24 := by
    rw [wrap_i64 (x := (f.toNat : Int)) (by omega) (by omega), Int.tmod_eq_emod_of_nonneg (by omega)]; omega
  rw [hM] at hM0 hM7; have hg := getV_b (r.take 1) (by rw [List.length_take]; omega); have hd : decide ((L : Int) < 2) = false := decide_eq_false (by omega); rw [hM] at hHP; obtain ⟨a1, hr1, hs1⟩ := cut_h slT_u8 hv 2 (by omega); obtain ⟨a2, hr2, hs2⟩ := cut_lh slT_u8 hv 1 2 (by omega) (by omega); rw [Nat.mul_one, ← by8_take] at hs1; rw [show (((by8 (f :: r)).drop (1 * 1)).take ((2 - 1) * 1)) = by8 (r.take 1) by simp [by8, List.map_take]] at hs2
  have hge := fun W (hb : Below w.heap.size w W) => getR_c (r.take 1) _ _ W (hs2.up hb)
  simp only [show 2 - 1 = 1 from rfl] at hr2 hge; have hr2 : ∀ (kl kh : IntKind) (w' : World), (Instr.slice 48 (.slice (some ⟨g, off, none⟩) L c) (some (.int kl 1)) (some (.int kh 2)) none).run Tryz.prog w' = .ok (.slice a2 1 (c - 1)) w' := hr2; have hr1 : ∀ (kh : IntKind) (w' : World), (Instr.slice 48 (.slice (some ⟨g, off, none⟩) L c) none (some (.int kh 2)) none).run Tryz.prog w' = .ok (.slice a1 2 c) w' := hr1; clear hv; obtain ⟨nn, hnn⟩ : ∃ nn, Oct.getV (r.take 1) = nn := ⟨_, rfl⟩; rw [hnn] at hHP hg hge; have HGE := Lib.hid hge; obtain ⟨S1, hS1⟩ : ∃ S : ByteArray, S = ⟨(headB M nn).toArray⟩ := ⟨_, rfl⟩; obtain ⟨S2, hS2⟩ : ∃ S : ByteArray, S = ⟨((f :: r).take 2).toArray⟩ := ⟨_, rfl⟩
  have hwW : IntKind.i64.wrap 2 = 2 := by decide
  clear hge hs2
  have hLp : 0 < L := by omega
  have hLb : ((L : Int) == 0) = false := by rw [beq_eq_false_iff_ne]; omega
  have HL := Lib.hid hL; clear hL; by_cases hE : headB M nn = (f :: r).take 2
  · have HP := Lib.hid (hHP.trans (by rw [decide_eq_true hE, if_pos rfl]))
    have hcmp : S1 = S2 := by rw [hS1, hS2, hE]
    subst hcmp; have hcmp := True.intro; clear hHP hE hnn; replace hS1 := Lib.hid hS1; replace hS2 := Lib.hid hS2; go_enter Tryz.func150, Tryz.ntmps150; go_wp2; refine wp_region_pi [(0, false), (1, false), (2, false), (3, false), (4, false), (5, false), (6, false), (7, false), (8, false), (9, false), (10, false), (11, false)] (by kernel_rfl) (by kernel_rfl) (by kernel_rfl) rfl (fun _ _ d _ _ h => by cases d <;> exact h) (fun Wd hBd => ?_)
    try simp only [zq]
    have cWd := cell_up hBd hcu
    iterate 4
      refine zig rfl (by rfl) (fun w' hBw' => cell_up hBw' cWd) ?_
    refine pi_q (v := .int .i64 M) rfl (by rfl) (fun w' hBw' => ?_) ?_
    · first | (go_simp; done) | (go_simp; exact hq)
    try simp only [zq]
    iterate 4
      refine zig rfl (by rfl) (fun w' hBw' => cell_up hBw' cWd) ?_
    refine pi_q (v := .int .i64 24) rfl (by rfl) (fun w' hBw' => ?_) ?_
    · first | (go_simp; done) | (go_simp; exact hr)
    try simp only [zq]
    refine zi rfl (by rfl) ?_; refine zi rfl (by rfl) ?_; refine pi_nil ?_
    go_wp2_with (go_at_call 168; with_reducible refine (HGE.out _ (hBd.alloc hBd.size _)).mono ?_; rintro en w5 ⟨rfl, hw5⟩; subst hw5)
    have hBw := hBd.alloc hBd.size (.cells #[.int .i64 1, .int .i64 2, .int .i64 4, .int .i64 8, .int .i64 0, .int .i64 0, .int .i64 0, .int .i64 0] 3); refine wp_region_pi [(0, false), (1, false), (4, false), (5, false), (6, false), (7, false), (8, false), (2, true), (3, false), (9, false)] (by kernel_rfl) (by kernel_rfl) (by kernel_rfl) rfl (fun _ _ d _ _ h => by cases d <;> exact h) (fun W2 hB2 => ?_)
    try simp only [zq]
    have q8 : ∀ w', Below W2.heap.size W2 w' → (convert 48 9 (.slice a1 2 c)).run Tryz.prog w' = .ok (.string S1) w' := fun w' h => by rw [hS2.out]; exact run_str (P := Tryz.prog) Tryz.underlying48 Tryz.underlying5 Tryz.underlying9 (hs1.up (below_up hBw (below_up hB2 h)))
    refine zi rfl (by rfl) ?_; refine zi rfl (by rfl) ?_; refine zi rfl (by rfl) ?_; refine zi rfl (by rfl) ?_; refine zi rfl (by rfl) ?_; refine zig rfl (by rfl) (fun w' hBw' => hr1) ?_; refine zig rfl (by rfl) (fun w' hBw' => q8 w' hBw') ?_; refine pi_call rfl (by rfl) (headR_c M nn W2 hM0 hM7 hg.1 hg.2) enters_headR (by rfl) (by kernel_rfl) ?_; rintro en wN ⟨v1, rfl, ho1, hb1⟩; obtain ⟨av, cv, rfl⟩ := own_slice ho1
    have q3 : ∀ w', Below wN.heap.size wN w' → (convert 48 9 (.slice av (headB M nn).length cv)).run Tryz.prog w' = .ok (.string S1) w' := fun w' h => by rw [hS1.out]; exact run_str (P := Tryz.prog) Tryz.underlying48 Tryz.underlying5 Tryz.underlying9 ((Sl.of_own ho1).up h)
    refine ⟨_, rfl, hb1, ?_⟩
    try simp only [zq]
    refine zig rfl (by rfl) (fun w' hBw' => q3 w' hBw') ?_; refine pi_q (v := .bool false) rfl (by rfl) (fun w' hBw' => by first | (go_simp; done) | (go_simp; exact fun h => HE.out (by rw [ByteArray.toList_eq, ByteArray.toList_eq] at h; exact ByteArray.ext (Array.toList_inj.1 h)))) ?_
    try simp only [zq]
    refine pi_nil ?_; go_wp2
    go_ret3
    exact ⟨below_up (below_up hBw hB2) hb1, by rw [HP.out]; rfl⟩
  · have HP := Lib.hid (hHP.trans (by rw [decide_eq_false hE]))
    have hcmp : ¬ S1 = S2 := fun h => hE (by rw [hS1, hS2] at h; have := congrArg (fun s : ByteArray => s.data.toList) h; simpa using this)
    have HE := Lib.hid hcmp; clear hcmp; clear hHP hE hnn; replace hS1 := Lib.hid hS1; replace hS2 := Lib.hid hS2; go_enter Tryz.func150, Tryz.ntmps150; go_wp2; refine wp_region_pi [(0, false), (1, false), (2, false), (3, false), (4, false), (5, false), (6, false), (7, false), (8, false), (9, false), (10, false), (11, false)] (by kernel_rfl) (by kernel_rfl) (by kernel_rfl) rfl (fun _ _ d _ _ h => by cases d <;> exact h) (fun Wd hBd => ?_)
    try simp only [zq]
    have cWd := cell_up hBd hcu
    iterate 4
      refine zig rfl (by rfl) (fun w' hBw' => cell_up hBw' cWd) ?_
    refine pi_q (v := .int .i64 M) rfl (by rfl) (fun w' hBw' => ?_) ?_
    · first | (go_simp; done) | (go_simp; exact hq)
    try simp only [zq]
    iterate 4
      refine zig rfl (by rfl) (fun w' hBw' => cell_up hBw' cWd) ?_
    refine pi_q (v := .int .i64 24) rfl (by rfl) (fun w' hBw' => ?_) ?_
    · first | (go_simp; done) | (go_simp; exact hr)
    try simp only [zq]
    refine zi rfl (by rfl) ?_; refine zi rfl (by rfl) ?_; refine pi_nil ?_
    go_wp2_with (go_at_call 168; with_reducible refine (HGE.out _ (hBd.alloc hBd.size _)).mono ?_; rintro en w5 ⟨rfl, hw5⟩; subst hw5)
    have hBw := hBd.alloc hBd.size (.cells #[.int .i64 1, .int .i64 2, .int .i64 4, .int .i64 8, .int .i64 0, .int .i64 0, .int .i64 0, .int .i64 0] 3); refine wp_region_pi [(0, false), (1, false), (4, false), (5, false), (6, false), (7, false), (8, false), (2, true), (3, false), (9, false)] (by kernel_rfl) (by kernel_rfl) (by kernel_rfl) rfl (fun _ _ d _ _ h => by cases d <;> exact h) (fun W2 hB2 => ?_)
    try simp only [zq]
    have q8 : ∀ w', Below W2.heap.size W2 w' → (convert 48 9 (.slice a1 2 c)).run Tryz.prog w' = .ok (.string S2) w' := fun w' h => by rw [hS2.out]; exact run_str (P := Tryz.prog) Tryz.underlying48 Tryz.underlying5 Tryz.underlying9 (hs1.up (below_up hBw (below_up hB2 h)))
    refine zi rfl (by rfl) ?_; refine zi rfl (by rfl) ?_; refine zi rfl (by rfl) ?_; refine zi rfl (by rfl) ?_; refine zi rfl (by rfl) ?_; refine zig rfl (by rfl) (fun w' hBw' => hr1) ?_; refine zig rfl (by rfl) (fun w' hBw' => q8 w' hBw') ?_; refine pi_call rfl (by rfl) (headR_c M nn W2 hM0 hM7 hg.1 hg.2) enters_headR (by rfl) (by kernel_rfl) ?_; rintro en wN ⟨v1, rfl, ho1, hb1⟩; obtain ⟨av, cv, rfl⟩ := own_slice ho1
    have q3 : ∀ w', Below wN.heap.size wN w' → (convert 48 9 (.slice av (headB M nn).length cv)).run Tryz.prog w' = .ok (.string S1) w' := fun w' h => by rw [hS1.out]; exact run_str (P := Tryz.prog) Tryz.underlying48 Tryz.underlying5 Tryz.underlying9 ((Sl.of_own ho1).up h)
    refine ⟨_, rfl, hb1, ?_⟩
    try simp only [zq]
    refine zig rfl (by rfl) (fun w' hBw' => q3 w' hBw') ?_; refine pi_q (v := .bool true) rfl (by rfl) (fun w' hBw' => by first | (go_simp; done) | (go_simp; exact fun h => HE.out (by rw [ByteArray.toList_eq, ByteArray.toList_eq] at h; exact ByteArray.ext (Array.toList_inj.1 h)))) ?_
    try simp only [zq]
    refine pi_nil ?_; go_wp2
    go_ret3
    exact ⟨below_up (below_up hBw hB2) hb1, by rw [HP.out]; rfl⟩
theorem headr_short1 (w : World) (v : Value) (f : UInt8) (r : List UInt8) (L : Nat) (hL : L = r.length + 1) (hv : Sl w 1 v L (by8 (f :: r))) (hbl : L ≤ 1000000) (hl : f.toNat % 32 = 25) (hs : L < 1 + 2) : Calls Tryz.prog 150 #[v] w (HrE (f :: r) w) := by
  obtain ⟨a, c, rfl⟩ := hv.len; have HV := Lib.hid hv; have HP := Lib.hid (show headP (f :: r) = none by simp only [headP, headN, hl]; rw [if_neg (by decide), if_neg (by decide), if_pos (by show r.length < 2; omega)]); obtain ⟨g, off, ha, hcu⟩ := hv.cellAt (k := 0) (by omega) (by omega); subst ha; simp only [Nat.add_zero] at hcu; rw [show (by8 (f :: r))[0]? = some (.int .u8 f.toNat) from rfl] at hcu; have hF := f.toNat_lt
  have hM0 : (0 : Int) ≤ ((f.toNat / 32 : Nat) : Int) := by omega
  have hM7 : ((f.toNat / 32 : Nat) : Int) ≤ 7 := by omega
  obtain ⟨M, hM⟩ : ∃ M : Int, ((f.toNat / 32 : Nat) : Int) = M := ⟨_, rfl⟩
  have hq : IntKind.i64.wrap ((IntKind.i64.wrap (f.toNat : Int)).tdiv 32) = M := by
    rw [wrap_i64 (x := (f.toNat : Int)) (by omega) (by omega), Int.tdiv_eq_ediv_of_nonneg (by omega), wrap_i64 (by omega) (by omega)]; omega
  have hr : (IntKind.i64.wrap (f.toNat : Int)).tmod 32 = 25 := by
    rw [wrap_i64 (x := (f.toNat : Int)) (by omega) (by omega), Int.tmod_eq_emod_of_nonneg (by omega)]; omega
  rw [hM] at hM0 hM7; have hd : decide ((L : Int) < 3) = true := decide_eq_true (by omega); clear hv
  have hLp : 0 < L := by omega
  have hLb : ((L : Int) == 0) = false := by rw [beq_eq_false_iff_ne]; omega
  have HL := Lib.hid hL; clear hL; go_enter Tryz.func150, Tryz.ntmps150; go_wp2; refine wp_region_pi [(0, false), (1, false), (2, false), (3, false), (4, false), (5, false), (6, false), (7, false), (8, false), (9, false), (10, false), (11, false)] (by kernel_rfl) (by kernel_rfl) (by kernel_rfl) rfl (fun _ _ d _ _ h => by cases d <;> exact h) (fun Wd hBd => ?_)
  try simp only [zq]
  have cWd := cell_up hBd hcu
  iterate 4
    refine zig rfl (by rfl) (fun w' hBw' => cell_up hBw' cWd) ?_
  refine pi_q (v := .int .i64 M) rfl (by rfl) (fun w' hBw' => ?_) ?_
  · first | (go_simp; done) | (go_simp; exact hq)
  try simp only [zq]
  iterate 4
    refine zig rfl (by rfl) (fun w' hBw' => cell_up hBw' cWd) ?_
  refine pi_q (v := .int .i64 25) rfl (by rfl) (fun w' hBw' => ?_) ?_
  · first | (go_simp; done) | (go_simp; exact hr)
  try simp only [zq]
  refine zi rfl (by rfl) ?_; refine zi rfl (by rfl) ?_; refine pi_nil ?_; go_wp2
  go_ret3
  refine ⟨?_, by rw [HP.out]; rfl⟩; exact hBd.alloc hBd.size _
theorem headr_big1 (w : World) (v : Value) (f : UInt8) (r : List UInt8) (L : Nat) (hL : L = r.length + 1) (hv : Sl w 1 v L (by8 (f :: r))) (hbl : L ≤ 1000000) (hl : f.toNat % 32 = 25) (hs : 1 + 2 ≤ L) : Calls Tryz.prog 150 #[v] w (HrE (f :: r) w) := by
  obtain ⟨a, c, rfl⟩ := hv.len; have HV := Lib.hid hv
  have hHP : headP (f :: r) = if headOk (f :: r) ((f.toNat / 32 : Nat) : Int) (Oct.getV (r.take 2)) (1 + 2) then some (((f.toNat / 32 : Nat) : Int), Oct.getV (r.take 2), 1 + 2) else none := by
    simp only [headP, headN, hl]; rw [if_neg (by decide), if_neg (by decide), if_neg (by show ¬ r.length < 2; omega)]
  rw [headOk_iff (by rw [List.length_cons]; omega)] at hHP; obtain ⟨g, off, ha, hcu⟩ := hv.cellAt (k := 0) (by omega) (by omega); subst ha; simp only [Nat.add_zero] at hcu; rw [show (by8 (f :: r))[0]? = some (.int .u8 f.toNat) from rfl] at hcu; have hF := f.toNat_lt
  have hM0 : (0 : Int) ≤ ((f.toNat / 32 : Nat) : Int) := by omega
  have hM7 : ((f.toNat / 32 : Nat) : Int) ≤ 7 := by omega
  obtain ⟨M, hM⟩ : ∃ M : Int, ((f.toNat / 32 : Nat) : Int) = M := ⟨_, rfl⟩
  have hq : IntKind.i64.wrap ((IntKind.i64.wrap (f.toNat : Int)).tdiv 32) = M := by
    rw [wrap_i64 (x := (f.toNat : Int)) (by omega) (by omega), Int.tdiv_eq_ediv_of_nonneg (by omega), wrap_i64 (by omega) (by omega)]; omega
  have hr : (IntKind.i64.wrap (f.toNat : Int)).tmod 32 = 25 := by
    rw [wrap_i64 (x := (f.toNat : Int)) (by omega) (by omega), Int.tmod_eq_emod_of_nonneg (by omega)]; omega
  rw [hM] at hM0 hM7; have hg := getV_b (r.take 2) (by rw [List.length_take]; omega); have hd : decide ((L : Int) < 3) = false := decide_eq_false (by omega); rw [hM] at hHP; obtain ⟨a1, hr1, hs1⟩ := cut_h slT_u8 hv 3 (by omega); obtain ⟨a2, hr2, hs2⟩ := cut_lh slT_u8 hv 1 3 (by omega) (by omega); rw [Nat.mul_one, ← by8_take] at hs1; rw [show (((by8 (f :: r)).drop (1 * 1)).take ((3 - 1) * 1)) = by8 (r.take 2) by simp [by8, List.map_take]] at hs2
  have hge := fun W (hb : Below w.heap.size w W) => getR_c (r.take 2) _ _ W (hs2.up hb)
  simp only [show 3 - 1 = 2 from rfl] at hr2 hge; have hr2 : ∀ (kl kh : IntKind) (w' : World), (Instr.slice 48 (.slice (some ⟨g, off, none⟩) L c) (some (.int kl 1)) (some (.int kh 3)) none).run Tryz.prog w' = .ok (.slice a2 2 (c - 1)) w' := hr2; have hr1 : ∀ (kh : IntKind) (w' : World), (Instr.slice 48 (.slice (some ⟨g, off, none⟩) L c) none (some (.int kh 3)) none).run Tryz.prog w' = .ok (.slice a1 3 c) w' := hr1; clear hv; obtain ⟨nn, hnn⟩ : ∃ nn, Oct.getV (r.take 2) = nn := ⟨_, rfl⟩; rw [hnn] at hHP hg hge; have HGE := Lib.hid hge; obtain ⟨S1, hS1⟩ : ∃ S : ByteArray, S = ⟨(headB M nn).toArray⟩ := ⟨_, rfl⟩; obtain ⟨S2, hS2⟩ : ∃ S : ByteArray, S = ⟨((f :: r).take 3).toArray⟩ := ⟨_, rfl⟩
  have hwW : IntKind.i64.wrap 3 = 3 := by decide
  clear hge hs2
  have hLp : 0 < L := by omega
  have hLb : ((L : Int) == 0) = false := by rw [beq_eq_false_iff_ne]; omega
  have HL := Lib.hid hL; clear hL; by_cases hE : headB M nn = (f :: r).take 3
  · have HP := Lib.hid (hHP.trans (by rw [decide_eq_true hE, if_pos rfl]))
    have hcmp : S1 = S2 := by rw [hS1, hS2, hE]
    subst hcmp; have hcmp := True.intro; clear hHP hE hnn; replace hS1 := Lib.hid hS1; replace hS2 := Lib.hid hS2; go_enter Tryz.func150, Tryz.ntmps150; go_wp2; refine wp_region_pi [(0, false), (1, false), (2, false), (3, false), (4, false), (5, false), (6, false), (7, false), (8, false), (9, false), (10, false), (11, false)] (by kernel_rfl) (by kernel_rfl) (by kernel_rfl) rfl (fun _ _ d _ _ h => by cases d <;> exact h) (fun Wd hBd => ?_)
    try simp only [zq]
    have cWd := cell_up hBd hcu
    iterate 4
      refine zig rfl (by rfl) (fun w' hBw' => cell_up hBw' cWd) ?_
    refine pi_q (v := .int .i64 M) rfl (by rfl) (fun w' hBw' => ?_) ?_
    · first | (go_simp; done) | (go_simp; exact hq)
    try simp only [zq]
    iterate 4
      refine zig rfl (by rfl) (fun w' hBw' => cell_up hBw' cWd) ?_
    refine pi_q (v := .int .i64 25) rfl (by rfl) (fun w' hBw' => ?_) ?_
    · first | (go_simp; done) | (go_simp; exact hr)
    try simp only [zq]
    refine zi rfl (by rfl) ?_; refine zi rfl (by rfl) ?_; refine pi_nil ?_
    go_wp2_with (go_at_call 168; with_reducible refine (HGE.out _ (hBd.alloc hBd.size _)).mono ?_; rintro en w5 ⟨rfl, hw5⟩; subst hw5)
    have hBw := hBd.alloc hBd.size (.cells #[.int .i64 1, .int .i64 2, .int .i64 4, .int .i64 8, .int .i64 0, .int .i64 0, .int .i64 0, .int .i64 0] 3); refine wp_region_pi [(0, false), (1, false), (4, false), (5, false), (6, false), (7, false), (8, false), (2, true), (3, false), (9, false)] (by kernel_rfl) (by kernel_rfl) (by kernel_rfl) rfl (fun _ _ d _ _ h => by cases d <;> exact h) (fun W2 hB2 => ?_)
    try simp only [zq]
    have q8 : ∀ w', Below W2.heap.size W2 w' → (convert 48 9 (.slice a1 3 c)).run Tryz.prog w' = .ok (.string S1) w' := fun w' h => by rw [hS2.out]; exact run_str (P := Tryz.prog) Tryz.underlying48 Tryz.underlying5 Tryz.underlying9 (hs1.up (below_up hBw (below_up hB2 h)))
    refine zi rfl (by rfl) ?_; refine zi rfl (by rfl) ?_; refine zi rfl (by rfl) ?_; refine zi rfl (by rfl) ?_; refine zi rfl (by rfl) ?_; refine zig rfl (by rfl) (fun w' hBw' => hr1) ?_; refine zig rfl (by rfl) (fun w' hBw' => q8 w' hBw') ?_; refine pi_call rfl (by rfl) (headR_c M nn W2 hM0 hM7 hg.1 hg.2) enters_headR (by rfl) (by kernel_rfl) ?_; rintro en wN ⟨v1, rfl, ho1, hb1⟩; obtain ⟨av, cv, rfl⟩ := own_slice ho1
    have q3 : ∀ w', Below wN.heap.size wN w' → (convert 48 9 (.slice av (headB M nn).length cv)).run Tryz.prog w' = .ok (.string S1) w' := fun w' h => by rw [hS1.out]; exact run_str (P := Tryz.prog) Tryz.underlying48 Tryz.underlying5 Tryz.underlying9 ((Sl.of_own ho1).up h)
    refine ⟨_, rfl, hb1, ?_⟩
    try simp only [zq]
    refine zig rfl (by rfl) (fun w' hBw' => q3 w' hBw') ?_; refine pi_q (v := .bool false) rfl (by rfl) (fun w' hBw' => by first | (go_simp; done) | (go_simp; exact fun h => HE.out (by rw [ByteArray.toList_eq, ByteArray.toList_eq] at h; exact ByteArray.ext (Array.toList_inj.1 h)))) ?_
    try simp only [zq]
    refine pi_nil ?_; go_wp2
    go_ret3
    exact ⟨below_up (below_up hBw hB2) hb1, by rw [HP.out]; rfl⟩
  · have HP := Lib.hid (hHP.trans (by rw [decide_eq_false hE]))
    have hcmp : ¬ S1 = S2 := fun h => hE (by rw [hS1, hS2] at h; have := congrArg (fun s : ByteArray => s.data.toList) h; simpa using this)
    have HE := Lib.hid hcmp; clear hcmp; clear hHP hE hnn; replace hS1 := Lib.hid hS1; replace hS2 := Lib.hid hS2; go_enter Tryz.func150, Tryz.ntmps150; go_wp2; refine wp_region_pi [(0, false), (1, false), (2, false), (3, false), (4, false), (5, false), (6, false), (7, false), (8, false), (9, false), (10, false), (11, false)] (by kernel_rfl) (by kernel_rfl) (by kernel_rfl) rfl (fun _ _ d _ _ h => by cases d <;> exact h) (fun Wd hBd => ?_)
    try simp only [zq]
    have cWd := cell_up hBd hcu
    iterate 4
      refine zig rfl (by rfl) (fun w' hBw' => cell_up hBw' cWd) ?_
    refine pi_q (v := .int .i64 M) rfl (by rfl) (fun w' hBw' => ?_) ?_
    · first | (go_simp; done) | (go_simp; exact hq)
    try simp only [zq]
    iterate 4
      refine zig rfl (by rfl) (fun w' hBw' => cell_up hBw' cWd) ?_
    refine pi_q (v := .int .i64 25) rfl (by rfl) (fun w' hBw' => ?_) ?_
    · first | (go_simp; done) | (go_simp; exact hr)
    try simp only [zq]
    refine zi rfl (by rfl) ?_; refine zi rfl (by rfl) ?_; refine pi_nil ?_
    go_wp2_with (go_at_call 168; with_reducible refine (HGE.out _ (hBd.alloc hBd.size _)).mono ?_; rintro en w5 ⟨rfl, hw5⟩; subst hw5)
    have hBw := hBd.alloc hBd.size (.cells #[.int .i64 1, .int .i64 2, .int .i64 4, .int .i64 8, .int .i64 0, .int .i64 0, .int .i64 0, .int .i64 0] 3); refine wp_region_pi [(0, false), (1, false), (4, false), (5, false), (6, false), (7, false), (8, false), (2, true), (3, false), (9, false)] (by kernel_rfl) (by kernel_rfl) (by kernel_rfl) rfl (fun _ _ d _ _ h => by cases d <;> exact h) (fun W2 hB2 => ?_)
    try simp only [zq]
    have q8 : ∀ w', Below W2.heap.size W2 w' → (convert 48 9 (.slice a1 3 c)).run Tryz.prog w' = .ok (.string S2) w' := fun w' h => by rw [hS2.out]; exact run_str (P := Tryz.prog) Tryz.underlying48 Tryz.underlying5 Tryz.underlying9 (hs1.up (below_up hBw (below_up hB2 h)))
    refine zi rfl (by rfl) ?_; refine zi rfl (by rfl) ?_; refine zi rfl (by rfl) ?_; refine zi rfl (by rfl) ?_; refine zi rfl (by rfl) ?_; refine zig rfl (by rfl) (fun w' hBw' => hr1) ?_; refine zig rfl (by rfl) (fun w' hBw' => q8 w' hBw') ?_; refine pi_call rfl (by rfl) (headR_c M nn W2 hM0 hM7 hg.1 hg.2) enters_headR (by rfl) (by kernel_rfl) ?_; rintro en wN ⟨v1, rfl, ho1, hb1⟩; obtain ⟨av, cv, rfl⟩ := own_slice ho1
    have q3 : ∀ w', Below wN.heap.size wN w' → (convert 48 9 (.slice av (headB M nn).length cv)).run Tryz.prog w' = .ok (.string S1) w' := fun w' h => by rw [hS1.out]; exact run_str (P := Tryz.prog) Tryz.underlying48 Tryz.underlying5 Tryz.underlying9 ((Sl.of_own ho1).up h)
    refine ⟨_, rfl, hb1, ?_⟩
    try simp only [zq]
    refine zig rfl (by rfl) (fun w' hBw' => q3 w' hBw') ?_; refine pi_q (v := .bool true) rfl (by rfl) (fun w' hBw' => by first | (go_simp; done) | (go_simp; exact fun h => HE.out (by rw [ByteArray.toList_eq, ByteArray.toList_eq] at h; exact ByteArray.ext (Array.toList_inj.1 h)))) ?_
    try simp only [zq]
    refine pi_nil ?_; go_wp2
    go_ret3
    exact ⟨below_up (below_up hBw hB2) hb1, by rw [HP.out]; rfl⟩
theorem headr_short2 (w : World) (v : Value) (f : UInt8) (r : List UInt8) (L : Nat) (hL : L = r.length + 1) (hv : Sl w 1 v L (by8 (f :: r))) (hbl : L ≤ 1000000) (hl : f.toNat % 32 = 26) (hs : L < 1 + 4) : Calls Tryz.prog 150 #[v] w (HrE (f :: r) w) := by
  obtain ⟨a, c, rfl⟩ := hv.len; have HV := Lib.hid hv; have HP := Lib.hid (show headP (f :: r) = none by simp only [headP, headN, hl]; rw [if_neg (by decide), if_neg (by decide), if_pos (by show r.length < 4; omega)]); obtain ⟨g, off, ha, hcu⟩ := hv.cellAt (k := 0) (by omega) (by omega); subst ha; simp only [Nat.add_zero] at hcu; rw [show (by8 (f :: r))[0]? = some (.int .u8 f.toNat) from rfl] at hcu; have hF := f.toNat_lt
  have hM0 : (0 : Int) ≤ ((f.toNat / 32 : Nat) : Int) := by omega
  have hM7 : ((f.toNat / 32 : Nat) : Int) ≤ 7 := by omega
  obtain ⟨M, hM⟩ : ∃ M : Int, ((f.toNat / 32 : Nat) : Int) = M := ⟨_, rfl⟩
  have hq : IntKind.i64.wrap ((IntKind.i64.wrap (f.toNat : Int)).tdiv 32) = M := by
    rw [wrap_i64 (x := (f.toNat : Int)) (by omega) (by omega), Int.tdiv_eq_ediv_of_nonneg (by omega), wrap_i64 (by omega) (by omega)]; omega
  have hr : (IntKind.i64.wrap (f.toNat : Int)).tmod 32 = 26 := by
    rw [wrap_i64 (x := (f.toNat : Int)) (by omega) (by omega), Int.tmod_eq_emod_of_nonneg (by omega)]; omega
  rw [hM] at hM0 hM7; have hd : decide ((L : Int) < 5) = true := decide_eq_true (by omega); clear hv
  have hLp : 0 < L := by omega
  have hLb : ((L : Int) == 0) = false := by rw [beq_eq_false_iff_ne]; omega
  have HL := Lib.hid hL; clear hL; go_enter Tryz.func150, Tryz.ntmps150; go_wp2; refine wp_region_pi [(0, false), (1, false), (2, false), (3, false), (4, false), (5, false), (6, false), (7, false), (8, false), (9, false), (10, false), (11, false)] (by kernel_rfl) (by kernel_rfl) (by kernel_rfl) rfl (fun _ _ d _ _ h => by cases d <;> exact h) (fun Wd hBd => ?_)
  try simp only [zq]
  have cWd := cell_up hBd hcu
  iterate 4
    refine zig rfl (by rfl) (fun w' hBw' => cell_up hBw' cWd) ?_
  refine pi_q (v := .int .i64 M) rfl (by rfl) (fun w' hBw' => ?_) ?_
  · first | (go_simp; done) | (go_simp; exact hq)
  try simp only [zq]
  iterate 4
    refine zig rfl (by rfl) (fun w' hBw' => cell_up hBw' cWd) ?_
  refine pi_q (v := .int .i64 26) rfl (by rfl) (fun w' hBw' => ?_) ?_
  · first | (go_simp; done) | (go_simp; exact hr)
  try simp only [zq]
  refine zi rfl (by rfl) ?_; refine zi rfl (by rfl) ?_; refine pi_nil ?_; go_wp2
  go_ret3
  refine ⟨?_, by rw [HP.out]; rfl⟩; exact hBd.alloc hBd.size _
theorem headr_big2 (w : World) (v : Value) (f : UInt8) (r : List UInt8) (L : Nat) (hL : L = r.length + 1) (hv : Sl w 1 v L (by8 (f :: r))) (hbl : L ≤ 1000000) (hl : f.toNat % 32 = 26) (hs : 1 + 4 ≤ L) : Calls Tryz.prog 150 #[v] w (HrE (f :: r) w) := by
  obtain ⟨a, c, rfl⟩ := hv.len; have HV := Lib.hid hv
  have hHP : headP (f :: r) = if headOk (f :: r) ((f.toNat / 32 : Nat) : Int) (Oct.getV (r.take 4)) (1 + 4) then some (((f.toNat / 32 : Nat) : Int), Oct.getV (r.take 4), 1 + 4) else none := by
    simp only [headP, headN, hl]; rw [if_neg (by decide), if_neg (by decide), if_neg (by show ¬ r.length < 4; omega)]
  rw [headOk_iff (by rw [List.length_cons]; omega)] at hHP; obtain ⟨g, off, ha, hcu⟩ := hv.cellAt (k := 0) (by omega) (by omega); subst ha; simp only [Nat.add_zero] at hcu; rw [show (by8 (f :: r))[0]? = some (.int .u8 f.toNat) from rfl] at hcu; have hF := f.toNat_lt
  have hM0 : (0 : Int) ≤ ((f.toNat / 32 : Nat) : Int) := by omega
  have hM7 : ((f.toNat / 32 : Nat) : Int) ≤ 7 := by omega
  obtain ⟨M, hM⟩ : ∃ M : Int, ((f.toNat / 32 : Nat) : Int) = M := ⟨_, rfl⟩
  have hq : IntKind.i64.wrap ((IntKind.i64.wrap (f.toNat : Int)).tdiv 32) = M := by
    rw [wrap_i64 (x := (f.toNat : Int)) (by omega) (by omega), Int.tdiv_eq_ediv_of_nonneg (by omega), wrap_i64 (by omega) (by omega)]; omega
  have hr : (IntKind.i64.wrap (f.toNat : Int)).tmod 32 = 26 := by
    rw [wrap_i64 (x := (f.toNat : Int)) (by omega) (by omega), Int.tmod_eq_emod_of_nonneg (by omega)]; omega
  rw [hM] at hM0 hM7; have hg := getV_b (r.take 4) (by rw [List.length_take]; omega); have hd : decide ((L : Int) < 5) = false := decide_eq_false (by omega); rw [hM] at hHP; obtain ⟨a1, hr1, hs1⟩ := cut_h slT_u8 hv 5 (by omega); obtain ⟨a2, hr2, hs2⟩ := cut_lh slT_u8 hv 1 5 (by omega) (by omega); rw [Nat.mul_one, ← by8_take] at hs1; rw [show (((by8 (f :: r)).drop (1 * 1)).take ((5 - 1) * 1)) = by8 (r.take 4) by simp [by8, List.map_take]] at hs2
  have hge := fun W (hb : Below w.heap.size w W) => getR_c (r.take 4) _ _ W (hs2.up hb)
  simp only [show 5 - 1 = 4 from rfl] at hr2 hge; have hr2 : ∀ (kl kh : IntKind) (w' : World), (Instr.slice 48 (.slice (some ⟨g, off, none⟩) L c) (some (.int kl 1)) (some (.int kh 5)) none).run Tryz.prog w' = .ok (.slice a2 4 (c - 1)) w' := hr2; have hr1 : ∀ (kh : IntKind) (w' : World), (Instr.slice 48 (.slice (some ⟨g, off, none⟩) L c) none (some (.int kh 5)) none).run Tryz.prog w' = .ok (.slice a1 5 c) w' := hr1; clear hv; obtain ⟨nn, hnn⟩ : ∃ nn, Oct.getV (r.take 4) = nn := ⟨_, rfl⟩; rw [hnn] at hHP hg hge; have HGE := Lib.hid hge; obtain ⟨S1, hS1⟩ : ∃ S : ByteArray, S = ⟨(headB M nn).toArray⟩ := ⟨_, rfl⟩; obtain ⟨S2, hS2⟩ : ∃ S : ByteArray, S = ⟨((f :: r).take 5).toArray⟩ := ⟨_, rfl⟩
  have hwW : IntKind.i64.wrap 5 = 5 := by decide
  clear hge hs2
  have hLp : 0 < L := by omega
  have hLb : ((L : Int) == 0) = false := by rw [beq_eq_false_iff_ne]; omega
  have HL := Lib.hid hL; clear hL; by_cases hE : headB M nn = (f :: r).take 5
  · have HP := Lib.hid (hHP.trans (by rw [decide_eq_true hE, if_pos rfl]))
    have hcmp : S1 = S2 := by rw [hS1, hS2, hE]
    subst hcmp; have hcmp := True.intro; clear hHP hE hnn; replace hS1 := Lib.hid hS1; replace hS2 := Lib.hid hS2; go_enter Tryz.func150, Tryz.ntmps150; go_wp2; refine wp_region_pi [(0, false), (1, false), (2, false), (3, false), (4, false), (5, false), (6, false), (7, false), (8, false), (9, false), (10, false), (11, false)] (by kernel_rfl) (by kernel_rfl) (by kernel_rfl) rfl (fun _ _ d _ _ h => by cases d <;> exact h) (fun Wd hBd => ?_)
    try simp only [zq]
    have cWd := cell_up hBd hcu
    iterate 4
      refine zig rfl (by rfl) (fun w' hBw' => cell_up hBw' cWd) ?_
    refine pi_q (v := .int .i64 M) rfl (by rfl) (fun w' hBw' => ?_) ?_
    · first | (go_simp; done) | (go_simp; exact hq)
    try simp only [zq]
    iterate 4
      refine zig rfl (by rfl) (fun w' hBw' => cell_up hBw' cWd) ?_
    refine pi_q (v := .int .i64 26) rfl (by rfl) (fun w' hBw' => ?_) ?_
    · first | (go_simp; done) | (go_simp; exact hr)
    try simp only [zq]
    refine zi rfl (by rfl) ?_; refine zi rfl (by rfl) ?_; refine pi_nil ?_
    go_wp2_with (go_at_call 168; with_reducible refine (HGE.out _ (hBd.alloc hBd.size _)).mono ?_; rintro en w5 ⟨rfl, hw5⟩; subst hw5)
    have hBw := hBd.alloc hBd.size (.cells #[.int .i64 1, .int .i64 2, .int .i64 4, .int .i64 8, .int .i64 0, .int .i64 0, .int .i64 0, .int .i64 0] 3); refine wp_region_pi [(0, false), (1, false), (4, false), (5, false), (6, false), (7, false), (8, false), (2, true), (3, false), (9, false)] (by kernel_rfl) (by kernel_rfl) (by kernel_rfl) rfl (fun _ _ d _ _ h => by cases d <;> exact h) (fun W2 hB2 => ?_)
    try simp only [zq]
    have q8 : ∀ w', Below W2.heap.size W2 w' → (convert 48 9 (.slice a1 5 c)).run Tryz.prog w' = .ok (.string S1) w' := fun w' h => by rw [hS2.out]; exact run_str (P := Tryz.prog) Tryz.underlying48 Tryz.underlying5 Tryz.underlying9 (hs1.up (below_up hBw (below_up hB2 h)))
    refine zi rfl (by rfl) ?_; refine zi rfl (by rfl) ?_; refine zi rfl (by rfl) ?_; refine zi rfl (by rfl) ?_; refine zi rfl (by rfl) ?_; refine zig rfl (by rfl) (fun w' hBw' => hr1) ?_; refine zig rfl (by rfl) (fun w' hBw' => q8 w' hBw') ?_; refine pi_call rfl (by rfl) (headR_c M nn W2 hM0 hM7 hg.1 hg.2) enters_headR (by rfl) (by kernel_rfl) ?_; rintro en wN ⟨v1, rfl, ho1, hb1⟩; obtain ⟨av, cv, rfl⟩ := own_slice ho1
    have q3 : ∀ w', Below wN.heap.size wN w' → (convert 48 9 (.slice av (headB M nn).length cv)).run Tryz.prog w' = .ok (.string S1) w' := fun w' h => by rw [hS1.out]; exact run_str (P := Tryz.prog) Tryz.underlying48 Tryz.underlying5 Tryz.underlying9 ((Sl.of_own ho1).up h)
    refine ⟨_, rfl, hb1, ?_⟩
    try simp only [zq]
    refine zig rfl (by rfl) (fun w' hBw' => q3 w' hBw') ?_; refine pi_q (v := .bool false) rfl (by rfl) (fun w' hBw' => by first | (go_simp; done) | (go_simp; exact fun h => HE.out (by rw [ByteArray.toList_eq, ByteArray.toList_eq] at h; exact ByteArray.ext (Array.toList_inj.1 h)))) ?_
    try simp only [zq]
    refine pi_nil ?_; go_wp2
    go_ret3
    exact ⟨below_up (below_up hBw hB2) hb1, by rw [HP.out]; rfl⟩
  · have HP := Lib.hid (hHP.trans (by rw [decide_eq_false hE]))
    have hcmp : ¬ S1 = S2 := fun h => hE (by rw [hS1, hS2] at h; have := congrArg (fun s : ByteArray => s.data.toList) h; simpa using this)
    have HE := Lib.hid hcmp; clear hcmp; clear hHP hE hnn; replace hS1 := Lib.hid hS1; replace hS2 := Lib.hid hS2; go_enter Tryz.func150, Tryz.ntmps150; go_wp2; refine wp_region_pi [(0, false), (1, false), (2, false), (3, false), (4, false), (5, false), (6, false), (7, false), (8, false), (9, false), (10, false), (11, false)] (by kernel_rfl) (by kernel_rfl) (by kernel_rfl) rfl (fun _ _ d _ _ h => by cases d <;> exact h) (fun Wd hBd => ?_)
    try simp only [zq]
    have cWd := cell_up hBd hcu
    iterate 4
      refine zig rfl (by rfl) (fun w' hBw' => cell_up hBw' cWd) ?_
    refine pi_q (v := .int .i64 M) rfl (by rfl) (fun w' hBw' => ?_) ?_
    · first | (go_simp; done) | (go_simp; exact hq)
    try simp only [zq]
    iterate 4
      refine zig rfl (by rfl) (fun w' hBw' => cell_up hBw' cWd) ?_
    refine pi_q (v := .int .i64 26) rfl (by rfl) (fun w' hBw' => ?_) ?_
    · first | (go_simp; done) | (go_simp; exact hr)
    try simp only [zq]
    refine zi rfl (by rfl) ?_; refine zi rfl (by rfl) ?_; refine pi_nil ?_
    go_wp2_with (go_at_call 168; with_reducible refine (HGE.out _ (hBd.alloc hBd.size _)).mono ?_; rintro en w5 ⟨rfl, hw5⟩; subst hw5)
    have hBw := hBd.alloc hBd.size (.cells #[.int .i64 1, .int .i64 2, .int .i64 4, .int .i64 8, .int .i64 0, .int .i64 0, .int .i64 0, .int .i64 0] 3); refine wp_region_pi [(0, false), (1, false), (4, false), (5, false), (6, false), (7, false), (8, false), (2, true), (3, false), (9, false)] (by kernel_rfl) (by kernel_rfl) (by kernel_rfl) rfl (fun _ _ d _ _ h => by cases d <;> exact h) (fun W2 hB2 => ?_)
    try simp only [zq]
    have q8 : ∀ w', Below W2.heap.size W2 w' → (convert 48 9 (.slice a1 5 c)).run Tryz.prog w' = .ok (.string S2) w' := fun w' h => by rw [hS2.out]; exact run_str (P := Tryz.prog) Tryz.underlying48 Tryz.underlying5 Tryz.underlying9 (hs1.up (below_up hBw (below_up hB2 h)))
    refine zi rfl (by rfl) ?_; refine zi rfl (by rfl) ?_; refine zi rfl (by rfl) ?_; refine zi rfl (by rfl) ?_; refine zi rfl (by rfl) ?_; refine zig rfl (by rfl) (fun w' hBw' => hr1) ?_; refine zig rfl (by rfl) (fun w' hBw' => q8 w' hBw') ?_; refine pi_call rfl (by rfl) (headR_c M nn W2 hM0 hM7 hg.1 hg.2) enters_headR (by rfl) (by kernel_rfl) ?_; rintro en wN ⟨v1, rfl, ho1, hb1⟩; obtain ⟨av, cv, rfl⟩ := own_slice ho1
    have q3 : ∀ w', Below wN.heap.size wN w' → (convert 48 9 (.slice av (headB M nn).length cv)).run Tryz.prog w' = .ok (.string S1) w' := fun w' h => by rw [hS1.out]; exact run_str (P := Tryz.prog) Tryz.underlying48 Tryz.underlying5 Tryz.underlying9 ((Sl.of_own ho1).up h)
    refine ⟨_, rfl, hb1, ?_⟩
    try simp only [zq]
    refine zig rfl (by rfl) (fun w' hBw' => q3 w' hBw') ?_; refine pi_q (v := .bool true) rfl (by rfl) (fun w' hBw' => by first | (go_simp; done) | (go_simp; exact fun h => HE.out (by rw [ByteArray.toList_eq, ByteArray.toList_eq] at h; exact ByteArray.ext (Array.toList_inj.1 h)))) ?_
    try simp only [zq]
    refine pi_nil ?_; go_wp2
    go_ret3
    exact ⟨below_up (below_up hBw hB2) hb1, by rw [HP.out]; rfl⟩
theorem headr_short3 (w : World) (v : Value) (f : UInt8) (r : List UInt8) (L : Nat) (hL : L = r.length + 1) (hv : Sl w 1 v L (by8 (f :: r))) (hbl : L ≤ 1000000) (hl : f.toNat % 32 = 27) (hs : L < 1 + 8) : Calls Tryz.prog 150 #[v] w (HrE (f :: r) w) := by
  obtain ⟨a, c, rfl⟩ := hv.len; have HV := Lib.hid hv; have HP := Lib.hid (show headP (f :: r) = none by simp only [headP, headN, hl]; rw [if_neg (by decide), if_neg (by decide), if_pos (by show r.length < 8; omega)]); obtain ⟨g, off, ha, hcu⟩ := hv.cellAt (k := 0) (by omega) (by omega); subst ha; simp only [Nat.add_zero] at hcu; rw [show (by8 (f :: r))[0]? = some (.int .u8 f.toNat) from rfl] at hcu; have hF := f.toNat_lt
  have hM0 : (0 : Int) ≤ ((f.toNat / 32 : Nat) : Int) := by omega
  have hM7 : ((f.toNat / 32 : Nat) : Int) ≤ 7 := by omega
  obtain ⟨M, hM⟩ : ∃ M : Int, ((f.toNat / 32 : Nat) : Int) = M := ⟨_, rfl⟩
  have hq : IntKind.i64.wrap ((IntKind.i64.wrap (f.toNat : Int)).tdiv 32) = M := by
    rw [wrap_i64 (x := (f.toNat : Int)) (by omega) (by omega), Int.tdiv_eq_ediv_of_nonneg (by omega), wrap_i64 (by omega) (by omega)]; omega
  have hr : (IntKind.i64.wrap (f.toNat : Int)).tmod 32 = 27 := by
    rw [wrap_i64 (x := (f.toNat : Int)) (by omega) (by omega), Int.tmod_eq_emod_of_nonneg (by omega)]; omega
  rw [hM] at hM0 hM7; have hd : decide ((L : Int) < 9) = true := decide_eq_true (by omega); clear hv
  have hLp : 0 < L := by omega
  have hLb : ((L : Int) == 0) = false := by rw [beq_eq_false_iff_ne]; omega
  have HL := Lib.hid hL; clear hL; go_enter Tryz.func150, Tryz.ntmps150; go_wp2; refine wp_region_pi [(0, false), (1, false), (2, false), (3, false), (4, false), (5, false), (6, false), (7, false), (8, false), (9, false), (10, false), (11, false)] (by kernel_rfl) (by kernel_rfl) (by kernel_rfl) rfl (fun _ _ d _ _ h => by cases d <;> exact h) (fun Wd hBd => ?_)
  try simp only [zq]
  have cWd := cell_up hBd hcu
  iterate 4
    refine zig rfl (by rfl) (fun w' hBw' => cell_up hBw' cWd) ?_
  refine pi_q (v := .int .i64 M) rfl (by rfl) (fun w' hBw' => ?_) ?_
  · first | (go_simp; done) | (go_simp; exact hq)
  try simp only [zq]
  iterate 4
    refine zig rfl (by rfl) (fun w' hBw' => cell_up hBw' cWd) ?_
  refine pi_q (v := .int .i64 27) rfl (by rfl) (fun w' hBw' => ?_) ?_
  · first | (go_simp; done) | (go_simp; exact hr)
  try simp only [zq]
  refine zi rfl (by rfl) ?_; refine zi rfl (by rfl) ?_; refine pi_nil ?_; go_wp2
  go_ret3
  refine ⟨?_, by rw [HP.out]; rfl⟩; exact hBd.alloc hBd.size _
theorem headr_big3 (w : World) (v : Value) (f : UInt8) (r : List UInt8) (L : Nat) (hL : L = r.length + 1) (hv : Sl w 1 v L (by8 (f :: r))) (hbl : L ≤ 1000000) (hl : f.toNat % 32 = 27) (hs : 1 + 8 ≤ L) : Calls Tryz.prog 150 #[v] w (HrE (f :: r) w) := by
  obtain ⟨a, c, rfl⟩ := hv.len; have HV := Lib.hid hv
  have hHP : headP (f :: r) = if headOk (f :: r) ((f.toNat / 32 : Nat) : Int) (Oct.getV (r.take 8)) (1 + 8) then some (((f.toNat / 32 : Nat) : Int), Oct.getV (r.take 8), 1 + 8) else none := by
    simp only [headP, headN, hl]; rw [if_neg (by decide), if_neg (by decide), if_neg (by show ¬ r.length < 8; omega)]
  rw [headOk_iff (by rw [List.length_cons]; omega)] at hHP; obtain ⟨g, off, ha, hcu⟩ := hv.cellAt (k := 0) (by omega) (by omega); subst ha; simp only [Nat.add_zero] at hcu; rw [show (by8 (f :: r))[0]? = some (.int .u8 f.toNat) from rfl] at hcu; have hF := f.toNat_lt
  have hM0 : (0 : Int) ≤ ((f.toNat / 32 : Nat) : Int) := by omega
  have hM7 : ((f.toNat / 32 : Nat) : Int) ≤ 7 := by omega
  obtain ⟨M, hM⟩ : ∃ M : Int, ((f.toNat / 32 : Nat) : Int) = M := ⟨_, rfl⟩
  have hq : IntKind.i64.wrap ((IntKind.i64.wrap (f.toNat : Int)).tdiv 32) = M := by
    rw [wrap_i64 (x := (f.toNat : Int)) (by omega) (by omega), Int.tdiv_eq_ediv_of_nonneg (by omega), wrap_i64 (by omega) (by omega)]; omega
  have hr : (IntKind.i64.wrap (f.toNat : Int)).tmod 32 = 27 := by
    rw [wrap_i64 (x := (f.toNat : Int)) (by omega) (by omega), Int.tmod_eq_emod_of_nonneg (by omega)]; omega
  rw [hM] at hM0 hM7; have hg := getV_b (r.take 8) (by rw [List.length_take]; omega); have hd : decide ((L : Int) < 9) = false := decide_eq_false (by omega); rw [hM] at hHP; obtain ⟨a1, hr1, hs1⟩ := cut_h slT_u8 hv 9 (by omega); obtain ⟨a2, hr2, hs2⟩ := cut_lh slT_u8 hv 1 9 (by omega) (by omega); rw [Nat.mul_one, ← by8_take] at hs1; rw [show (((by8 (f :: r)).drop (1 * 1)).take ((9 - 1) * 1)) = by8 (r.take 8) by simp [by8, List.map_take]] at hs2
  have hge := fun W (hb : Below w.heap.size w W) => getR_c (r.take 8) _ _ W (hs2.up hb)
  simp only [show 9 - 1 = 8 from rfl] at hr2 hge; have hr2 : ∀ (kl kh : IntKind) (w' : World), (Instr.slice 48 (.slice (some ⟨g, off, none⟩) L c) (some (.int kl 1)) (some (.int kh 9)) none).run Tryz.prog w' = .ok (.slice a2 8 (c - 1)) w' := hr2; have hr1 : ∀ (kh : IntKind) (w' : World), (Instr.slice 48 (.slice (some ⟨g, off, none⟩) L c) none (some (.int kh 9)) none).run Tryz.prog w' = .ok (.slice a1 9 c) w' := hr1; clear hv; obtain ⟨nn, hnn⟩ : ∃ nn, Oct.getV (r.take 8) = nn := ⟨_, rfl⟩; rw [hnn] at hHP hg hge; have HGE := Lib.hid hge; obtain ⟨S1, hS1⟩ : ∃ S : ByteArray, S = ⟨(headB M nn).toArray⟩ := ⟨_, rfl⟩; obtain ⟨S2, hS2⟩ : ∃ S : ByteArray, S = ⟨((f :: r).take 9).toArray⟩ := ⟨_, rfl⟩
  have hwW : IntKind.i64.wrap 9 = 9 := by decide
  clear hge hs2
  have hLp : 0 < L := by omega
  have hLb : ((L : Int) == 0) = false := by rw [beq_eq_false_iff_ne]; omega
  have HL := Lib.hid hL; clear hL; by_cases hE : headB M nn = (f :: r).take 9
  · have HP := Lib.hid (hHP.trans (by rw [decide_eq_true hE, if_pos rfl]))
    have hcmp : S1 = S2 := by rw [hS1, hS2, hE]
    subst hcmp; have hcmp := True.intro; clear hHP hE hnn; replace hS1 := Lib.hid hS1; replace hS2 := Lib.hid hS2; go_enter Tryz.func150, Tryz.ntmps150; go_wp2; refine wp_region_pi [(0, false), (1, false), (2, false), (3, false), (4, false), (5, false), (6, false), (7, false), (8, false), (9, false), (10, false), (11, false)] (by kernel_rfl) (by kernel_rfl) (by kernel_rfl) rfl (fun _ _ d _ _ h => by cases d <;> exact h) (fun Wd hBd => ?_)
    try simp only [zq]
    have cWd := cell_up hBd hcu
    iterate 4
      refine zig rfl (by rfl) (fun w' hBw' => cell_up hBw' cWd) ?_
    refine pi_q (v := .int .i64 M) rfl (by rfl) (fun w' hBw' => ?_) ?_
    · first | (go_simp; done) | (go_simp; exact hq)
    try simp only [zq]
    iterate 4
      refine zig rfl (by rfl) (fun w' hBw' => cell_up hBw' cWd) ?_
    refine pi_q (v := .int .i64 27) rfl (by rfl) (fun w' hBw' => ?_) ?_
    · first | (go_simp; done) | (go_simp; exact hr)
    try simp only [zq]
    refine zi rfl (by rfl) ?_; refine zi rfl (by rfl) ?_; refine pi_nil ?_
    go_wp2_with (go_at_call 168; with_reducible refine (HGE.out _ (hBd.alloc hBd.size _)).mono ?_; rintro en w5 ⟨rfl, hw5⟩; subst hw5)
    have hBw := hBd.alloc hBd.size (.cells #[.int .i64 1, .int .i64 2, .int .i64 4, .int .i64 8, .int .i64 0, .int .i64 0, .int .i64 0, .int .i64 0] 3); refine wp_region_pi [(0, false), (1, false), (4, false), (5, false), (6, false), (7, false), (8, false), (2, true), (3, false), (9, false)] (by kernel_rfl) (by kernel_rfl) (by kernel_rfl) rfl (fun _ _ d _ _ h => by cases d <;> exact h) (fun W2 hB2 => ?_)
    try simp only [zq]
    have q8 : ∀ w', Below W2.heap.size W2 w' → (convert 48 9 (.slice a1 9 c)).run Tryz.prog w' = .ok (.string S1) w' := fun w' h => by rw [hS2.out]; exact run_str (P := Tryz.prog) Tryz.underlying48 Tryz.underlying5 Tryz.underlying9 (hs1.up (below_up hBw (below_up hB2 h)))
    refine zi rfl (by rfl) ?_; refine zi rfl (by rfl) ?_; refine zi rfl (by rfl) ?_; refine zi rfl (by rfl) ?_; refine zi rfl (by rfl) ?_; refine zig rfl (by rfl) (fun w' hBw' => hr1) ?_; refine zig rfl (by rfl) (fun w' hBw' => q8 w' hBw') ?_; refine pi_call rfl (by rfl) (headR_c M nn W2 hM0 hM7 hg.1 hg.2) enters_headR (by rfl) (by kernel_rfl) ?_; rintro en wN ⟨v1, rfl, ho1, hb1⟩; obtain ⟨av, cv, rfl⟩ := own_slice ho1
    have q3 : ∀ w', Below wN.heap.size wN w' → (convert 48 9 (.slice av (headB M nn).length cv)).run Tryz.prog w' = .ok (.string S1) w' := fun w' h => by rw [hS1.out]; exact run_str (P := Tryz.prog) Tryz.underlying48 Tryz.underlying5 Tryz.underlying9 ((Sl.of_own ho1).up h)
    refine ⟨_, rfl, hb1, ?_⟩
    try simp only [zq]
    refine zig rfl (by rfl) (fun w' hBw' => q3 w' hBw') ?_; refine pi_q (v := .bool false) rfl (by rfl) (fun w' hBw' => by first | (go_simp; done) | (go_simp; exact fun h => HE.out (by rw [ByteArray.toList_eq, ByteArray.toList_eq] at h; exact ByteArray.ext (Array.toList_inj.1 h)))) ?_
    try simp only [zq]
    refine pi_nil ?_; go_wp2
    go_ret3
    exact ⟨below_up (below_up hBw hB2) hb1, by rw [HP.out]; rfl⟩
  · have HP := Lib.hid (hHP.trans (by rw [decide_eq_false hE]))
    have hcmp : ¬ S1 = S2 := fun h => hE (by rw [hS1, hS2] at h; have := congrArg (fun s : ByteArray => s.data.toList) h; simpa using this)
    have HE := Lib.hid hcmp; clear hcmp; clear hHP hE hnn; replace hS1 := Lib.hid hS1; replace hS2 := Lib.hid hS2; go_enter Tryz.func150, Tryz.ntmps150; go_wp2; refine wp_region_pi [(0, false), (1, false), (2, false), (3, false), (4, false), (5, false), (6, false), (7, false), (8, false), (9, false), (10, false), (11, false)] (by kernel_rfl) (by kernel_rfl) (by kernel_rfl) rfl (fun _ _ d _ _ h => by cases d <;> exact h) (fun Wd hBd => ?_)
    try simp only [zq]
    have cWd := cell_up hBd hcu
    iterate 4
      refine zig rfl (by rfl) (fun w' hBw' => cell_up hBw' cWd) ?_
    refine pi_q (v := .int .i64 M) rfl (by rfl) (fun w' hBw' => ?_) ?_
    · first | (go_simp; done) | (go_simp; exact hq)
    try simp only [zq]
    iterate 4
      refine zig rfl (by rfl) (fun w' hBw' => cell_up hBw' cWd) ?_
    refine pi_q (v := .int .i64 27) rfl (by rfl) (fun w' hBw' => ?_) ?_
    · first | (go_simp; done) | (go_simp; exact hr)
    try simp only [zq]
    refine zi rfl (by rfl) ?_; refine zi rfl (by rfl) ?_; refine pi_nil ?_
    go_wp2_with (go_at_call 168; with_reducible refine (HGE.out _ (hBd.alloc hBd.size _)).mono ?_; rintro en w5 ⟨rfl, hw5⟩; subst hw5)
    have hBw := hBd.alloc hBd.size (.cells #[.int .i64 1, .int .i64 2, .int .i64 4, .int .i64 8, .int .i64 0, .int .i64 0, .int .i64 0, .int .i64 0] 3); refine wp_region_pi [(0, false), (1, false), (4, false), (5, false), (6, false), (7, false), (8, false), (2, true), (3, false), (9, false)] (by kernel_rfl) (by kernel_rfl) (by kernel_rfl) rfl (fun _ _ d _ _ h => by cases d <;> exact h) (fun W2 hB2 => ?_)
    try simp only [zq]
    have q8 : ∀ w', Below W2.heap.size W2 w' → (convert 48 9 (.slice a1 9 c)).run Tryz.prog w' = .ok (.string S2) w' := fun w' h => by rw [hS2.out]; exact run_str (P := Tryz.prog) Tryz.underlying48 Tryz.underlying5 Tryz.underlying9 (hs1.up (below_up hBw (below_up hB2 h)))
    refine zi rfl (by rfl) ?_; refine zi rfl (by rfl) ?_; refine zi rfl (by rfl) ?_; refine zi rfl (by rfl) ?_; refine zi rfl (by rfl) ?_; refine zig rfl (by rfl) (fun w' hBw' => hr1) ?_; refine zig rfl (by rfl) (fun w' hBw' => q8 w' hBw') ?_; refine pi_call rfl (by rfl) (headR_c M nn W2 hM0 hM7 hg.1 hg.2) enters_headR (by rfl) (by kernel_rfl) ?_; rintro en wN ⟨v1, rfl, ho1, hb1⟩; obtain ⟨av, cv, rfl⟩ := own_slice ho1
    have q3 : ∀ w', Below wN.heap.size wN w' → (convert 48 9 (.slice av (headB M nn).length cv)).run Tryz.prog w' = .ok (.string S1) w' := fun w' h => by rw [hS1.out]; exact run_str (P := Tryz.prog) Tryz.underlying48 Tryz.underlying5 Tryz.underlying9 ((Sl.of_own ho1).up h)
    refine ⟨_, rfl, hb1, ?_⟩
    try simp only [zq]
    refine zig rfl (by rfl) (fun w' hBw' => q3 w' hBw') ?_; refine pi_q (v := .bool true) rfl (by rfl) (fun w' hBw' => by first | (go_simp; done) | (go_simp; exact fun h => HE.out (by rw [ByteArray.toList_eq, ByteArray.toList_eq] at h; exact ByteArray.ext (Array.toList_inj.1 h)))) ?_
    try simp only [zq]
    refine pi_nil ?_; go_wp2
    go_ret3
    exact ⟨below_up (below_up hBw hB2) hb1, by rw [HP.out]; rfl⟩
theorem headr_c (w : World) (v : Value) (b : List UInt8) (hv : Sl w 1 v b.length (by8 b)) (hbl : b.length ≤ 1000000) : Calls Tryz.prog 150 #[v] w (HrE b w) := by
  cases b with
  | nil => exact headr_nil w v hv
  | cons f r =>
    have hF : f.toNat < 256 := f.toNat_lt; by_cases h1 : f.toNat % 32 < 24
    · exact headr_low w v f r _ (by rw [List.length_cons]) hv hbl h1
    · have hc : f.toNat % 32 = 24 ∨ f.toNat % 32 = 25 ∨ f.toNat % 32 = 26 ∨ f.toNat % 32 = 27 ∨ f.toNat % 32 = 28 ∨ f.toNat % 32 = 29 ∨ f.toNat % 32 = 30 ∨ f.toNat % 32 = 31 := by omega
      rcases hc with e | e | e | e | e | e | e | e
      · by_cases hs : (f :: r).length < 1 + 1
        · exact headr_short0 w v f r _ (by rw [List.length_cons]) hv hbl e hs
        · exact headr_big0 w v f r _ (by rw [List.length_cons]) hv hbl e (by omega)
      · by_cases hs : (f :: r).length < 1 + 2
        · exact headr_short1 w v f r _ (by rw [List.length_cons]) hv hbl e hs
        · exact headr_big1 w v f r _ (by rw [List.length_cons]) hv hbl e (by omega)
      · by_cases hs : (f :: r).length < 1 + 4
        · exact headr_short2 w v f r _ (by rw [List.length_cons]) hv hbl e hs
        · exact headr_big2 w v f r _ (by rw [List.length_cons]) hv hbl e (by omega)
      · by_cases hs : (f :: r).length < 1 + 8
        · exact headr_short3 w v f r _ (by rw [List.length_cons]) hv hbl e hs
        · exact headr_big3 w v f r _ (by rw [List.length_cons]) hv hbl e (by omega)
      · exact headr_far28 w v f r _ (by rw [List.length_cons]) hv hbl e
      · exact headr_far29 w v f r _ (by rw [List.length_cons]) hv hbl e
      · exact headr_far30 w v f r _ (by rw [List.length_cons]) hv hbl e
      · exact headr_far31 w v f r _ (by rw [List.length_cons]) hv hbl e
end Go.Proofs.YtpkonagjnfphkaaGreatDoor
