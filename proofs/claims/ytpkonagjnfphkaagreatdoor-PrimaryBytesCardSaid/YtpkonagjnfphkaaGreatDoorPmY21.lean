/-
  NmOfs, NmNu, NmRc, NmPr, NmPn, NmRp, NmRi, StabA, StabB, NStabC, NStabD, NStabE, NmOrd, NmPl, NmPt, NmSh: several texts in one (bundle.py).
-/
import Derived.Test.YtpkonagjnfphkaaGreatDoorPmY20
import Derived.Test.YtpkonagjnfphkaaGreatDoorPmY18
import Derived.Test.YtpkonagjnfphkaaGreatDoorPmY01
import Derived.Deep.LoopGhost
import Derived.Test.YtpkonagjnfphkaaGreatDoorPmY19
import Derived.Test.YtpkonagjnfphkaaGreatDoorPmY12
import Derived.Test.YtpkonagjnfphkaaGreatDoorPmY07
import Derived.Test.YtpkonagjnfphkaaGreatDoorPmY10
import Derived.Test.YtpkonagjnfphkaaGreatDoorPmY11
set_option linter.unusedSimpArgs false
set_option linter.unusedVariables false
set_option maxRecDepth 100000
set_option maxHeartbeats 2000000
namespace Go.Proofs.YtpkonagjnfphkaaGreatDoor
open Go.RowKit Trc Cb
abbrev ofV (x : It) : Value := .tuple #[epV (if okE x then ofA x else 0) (if okE x then ofB x else 0), .int .i64 (if okE x then 0 else 130)]
theorem of_c (x : It) (r : Rw) (w : World) (hx : ItR (fun k => k < w.heap.size) w x r) (hcx : Cb.cnt x ≤ 1000000) : Calls Tryz.prog 127 #[rwV r] w (Ret (ofV x) w) := by
  obtain ⟨k1, n1, ba1, bn1, bc1, s1, la1, ln1, lc1, rfl⟩ := hx.shape; obtain ⟨W0, hW0⟩ : ∃ W, W = (w.alloc (.cells (rwC ⟨k1, n1, .slice ba1 bn1 bc1, s1, .slice la1 ln1 lc1⟩).toArray 62)).alloc (.cells #[.int .u32 0, .int .u32 0] 25) := ⟨_, rfl⟩
  have hb0 : Below w.heap.size w W0 := by rw [hW0]; exact (below_alloc w _).alloc (by simp) _
  have hs0 : W0.heap.size = w.heap.size + 2 := by rw [hW0]; simp
  have X0 : RowAt W0 w.heap.size (rwC ⟨k1, n1, .slice ba1 bn1 bc1, s1, .slice la1 ln1 lc1⟩).toArray 62 := by
    rw [hW0]; exact (RowAt.new w _ _).below (below_alloc _ _)
  have Z0 : RowAt W0 (w.heap.size + 1) #[.int .u32 0, .int .u32 0] 25 := by
    rw [hW0]; have := RowAt.new (w.alloc (.cells (rwC ⟨k1, n1, .slice ba1 bn1 bc1, s1, .slice la1 ln1 lc1⟩).toArray 62)) #[.int .u32 0, .int .u32 0] 25
    rwa [World.size_alloc] at this
  have hrd := readE_c x _ W0 ((hx.up hb0).mono (fun k e => by omega)) hcx; unfold ofV; generalize (if okE x then ofA x else 0) = a at hrd ⊢; generalize (if okE x then ofB x else 0) = b at hrd ⊢; generalize (if okE x then (0 : Int) else 130) = e0 at hrd ⊢; have HRD := Lib.hid (fun (W : World) (e : W = W0) => show Calls Tryz.prog 148 #[rwV ⟨k1, n1, .slice ba1 bn1 bc1, s1, .slice la1 ln1 lc1⟩, .func (.func 113) #[] #[], .func (.func 149) #[] #[]] W (Ret (.tuple #[epV a b, .int .i64 e0]) W0) by rw [e]; exact hrd); have HW0 := Lib.hid hW0; have b0 := X0.cell (i := 0) rfl; have b1 := X0.cell (i := 1) rfl; have b2 := X0.cell (i := 2) rfl; have b3 := X0.cell (i := 3) rfl; have b4 := X0.cell (i := 4) rfl; rw [hW0] at b0 b1 b2 b3 b4; have HZ0 := Lib.hid Z0; have HB0 := Lib.hid hb0; have HS0 := Lib.hid hs0; clear X0 Z0 hb0 hs0 hrd hW0 hx hcx
  go_enter Tryz.func127, Tryz.ntmps127
  go_wp2_with fail
  refine (HRD.out _ HW0.out.symm).mono ?_; rintro en W1 ⟨rfl, hb1⟩; have Z1 := HZ0.out.below hb1; have HB1 := Lib.hid hb1; have HZ1 := Lib.hid Z1; have z0 := Z1.cell (i := 0) rfl; have f0 := Z1.fz 0; have z1 := Z1.cell (i := 1) rfl; have f1 := Z1.fz 1; clear hb1 Z1 b0 b1 b2 b3 b4; go_wp2; have hZ := (HZ1.out.set 0 (.int .u32 a)).set 1 (.int .u32 b); have g0 := RowAt.cell hZ (i := 0) (v := .int .u32 a) rfl; have g1 := RowAt.cell hZ (i := 1) (v := .int .u32 b) rfl; refine bodyPost_ret (v := .tuple #[epV a b, .int .i64 e0]) (by simp [results, Tryz.results127, go_sem, g0, g1]) rfl ?_; exact ⟨rfl, But.below (O := fun k => w.heap.size ≤ k) ((But.of_below HB0.out).trans ((But.of_below HB1.out).trans ((But.setCell _ _ _ (by simp)).trans ((But.setCell _ _ _ (by simp)))))) (fun k e => e) (Nat.le_refl _)⟩
end Go.Proofs.YtpkonagjnfphkaaGreatDoor
namespace Go.Proofs.YtpkonagjnfphkaaGreatDoor
open Go.RowKit Trc
theorem rRight_c (n m : Nat) (w : World) : Calls Tryz.prog 57 #[epV n m] w (Ret (.bool (decide (Dig.chkP n m = 0))) w) := by
  by_cases h : n = 0
  · subst h
    by_cases hm : m = 0
    · subst hm
      rw [show decide (Dig.chkP 0 0 = 0) = true from rfl]; go_enter Tryz.func57, Tryz.ntmps57; go_wp2; go_ret; exact ⟨rfl, below_alloc _ _⟩
    · have hd : (((m : Int)) == 0) = false := by simp; omega
      rw [show decide (Dig.chkP 0 m = 0) = false from decide_eq_false (by rw [show Dig.chkP 0 m = 2 from if_pos ⟨rfl, hm⟩]; decide)]; go_enter Tryz.func57, Tryz.ntmps57; go_wp2; go_ret; exact ⟨rfl, below_alloc _ _⟩
  · have hd : decide ((0 : Int) < (n : Int)) = true := decide_eq_true (by omega)
    have hd2 : decide (0 < n) = true := decide_eq_true (by omega); rw [show decide (Dig.chkP n m = 0) = true from decide_eq_true (if_neg (fun e => h e.1))]; clear h; go_enter Tryz.func57, Tryz.ntmps57; go_wp2; go_ret; exact ⟨rfl, below_alloc _ _⟩
end Go.Proofs.YtpkonagjnfphkaaGreatDoor
namespace Go.Proofs.YtpkonagjnfphkaaGreatDoor
open Go.RowKit
namespace Dig
end Dig
def NumV (l : List UInt8) (bound : Nat) : Value := match Dig.toNum l bound with
  | some n => .tuple #[.int .u64 n, .bool true]
  | none => .tuple #[.int .u64 0, .bool false]
theorem NumV.no {l : List UInt8} {bound : Nat} (h : Dig.toNum l bound = none) : NumV l bound = .tuple #[.int .u64 0, .bool false] := by unfold NumV; rw [h]
namespace Dig
end Dig
end Go.Proofs.YtpkonagjnfphkaaGreatDoor
namespace Go.Proofs.YtpkonagjnfphkaaGreatDoor
open Go.RowKit Trc
namespace Dig
structure N4 where
  n : Nat
  m : Nat
  t : Nat
  s : Nat
def nameQ (l : List UInt8) : Option N4 := match cut 32 l with
  | none => none
  | some (a, r) => match endP a with
    | none => none
    | some p => match cut 32 r with
      | none => none
      | some (b, c) => match toNum b 4611686018427387903 with
        | none => none
        | some t => match toNum c 4294967295 with
          | none => none
          | some s => if p.1 = 0 then none else some ⟨p.1, p.2, t, s⟩
def nameP (l : List UInt8) : N4 × Int := if 100 < l.length then (⟨0, 0, 0, 0⟩, 3) else match nameQ l with | some p => (p, 0) | none => (⟨0, 0, 0, 0⟩, 130)
end Dig
def PnE (l : List UInt8) (w : World) (en : Ending) (w' : World) : Prop := Below w.heap.size w w' ∧ en = .returned (.tuple #[nmW (Dig.nameP l).1.n (Dig.nameP l).1.m (Dig.nameP l).1.t (Dig.nameP l).1.s, .int .i64 (Dig.nameP l).2])
theorem PnE.no {l : List UInt8} {w w' : World} {e : Int} (h : Dig.nameP l = (⟨0, 0, 0, 0⟩, e)) (hw : Below w.heap.size w w') : PnE l w (.returned (.tuple #[.agg #[.int .u32 0, .int .u32 0, .int .u64 0, .int .u32 0], .int .i64 e])) w' := ⟨hw, by rw [h]; try rfl⟩
theorem rNobody_c (n m : Nat) (w : World) : Calls Tryz.prog 129 #[epV n m] w (Ret (.bool (decide (n = 0 ∧ m = 0))) w) := by
  by_cases h : n = 0
  · subst h
    by_cases hm : m = 0
    · subst hm
      rw [show decide ((0 : Nat) = 0 ∧ (0 : Nat) = 0) = true from rfl]; go_enter Tryz.func129, Tryz.ntmps129; go_wp2; go_ret; exact ⟨rfl, below_alloc _ _⟩
    · have hd : (((m : Int)) == 0) = false := by simp; omega
      rw [show decide ((0 : Nat) = 0 ∧ m = 0) = false from decide_eq_false (fun e => hm e.2)]; go_enter Tryz.func129, Tryz.ntmps129; go_wp2; go_ret; exact ⟨rfl, below_alloc _ _⟩
  · have hd : (((n : Int)) == 0) = false := by simp; omega
    rw [show decide (n = 0 ∧ m = 0) = false from decide_eq_false (fun e => h e.1)]; go_enter Tryz.func129, Tryz.ntmps129; go_wp2; go_ret; exact ⟨rfl, below_alloc _ _⟩
end Go.Proofs.YtpkonagjnfphkaaGreatDoor
namespace Go.Proofs.YtpkonagjnfphkaaGreatDoor
open Go.RowKit Trc Cb
theorem rUint_c (n : Nat) (w : World) : Calls Tryz.prog 105 #[.int .u64 n] w (Ret (rwV (rU n)) w) := by
  go_enter Tryz.func105, Tryz.ntmps105; go_wp2; refine bodyPost_ret (v := rwV (rU n)) (by simp [results, Tryz.results105, go_sem]) rfl ?_; exact ⟨rfl, below_alloc _ _⟩
theorem rUint0 (w : World) : Calls Tryz.prog 105 #[.int .u64 0] w (Ret (rwV (rU 0)) w) := rUint_c 0 w
theorem rUint1 (w : World) : Calls Tryz.prog 105 #[.int .u64 1] w (Ret (rwV (rU 1)) w) := rUint_c 1 w
theorem rUint2 (w : World) : Calls Tryz.prog 105 #[.int .u64 2] w (Ret (rwV (rU 2)) w) := rUint_c 2 w
theorem rList_c (a : Option Addr) (n c : Nat) (w : World) : Calls Tryz.prog 28 #[.slice a n c] w (Ret (rwV (rL (.slice a n c))) w) := by
  go_enter Tryz.func28, Tryz.ntmps28; go_wp2; refine bodyPost_ret (v := rwV (rL (.slice a n c))) (by simp [results, Tryz.results28, go_sem]) rfl ?_; exact ⟨rfl, below_alloc _ _⟩
theorem rItem_c (n m : Nat) (hn : n < 4294967296) (hm : m < 4294967296) (h : n = 0 → m = 0) (w : World) : Calls Tryz.prog 106 #[epV n m] w (MadeE (epI n m) w) := by
  obtain ⟨iI, hiI, hzI, hsI, _⟩ := infoIt; have Q0 := RowAt.new w #[.int .u32 n, .int .u32 m] 25; have Z0 := RowAt.new (w.alloc (.cells #[.int .u32 n, .int .u32 m] 25)) (rwC rZ).toArray 62; have Q1 := Q0.alloc (.cells (rwC rZ).toArray 62); have hB1 : Below w.heap.size w ((w.alloc (.cells #[.int .u32 n, .int .u32 m] 25)).alloc (.cells (rwC rZ).toArray 62)) := (below_alloc w _).alloc (by simp) _; simp only [World.size_alloc] at Z0; by_cases h0 : n = 0
  · have HNB := Lib.hid (show decide (n = 0 ∧ m = 0) = true from decide_eq_true ⟨h0, h h0⟩)
    rw [show epI n m = lI [uI 1, uI 0] from if_pos h0]; clear h0 h; go_enter Tryz.func106, Tryz.ntmps106
    go_wp2_with (first
      | (go_at_call 129; refine (rNobody_c n m _).mono ?_; rw [HNB.out]; rintro en w1 ⟨rfl, hb1⟩)
      | (go_at_call 105; (with_reducible refine (rUint1 _).mono ?_); rintro en w1' ⟨rfl, hb1'⟩)
      | (go_at_call 105; (with_reducible refine (rUint0 _).mono ?_); rintro en w2 ⟨rfl, hb2⟩))
    have hqa := below_alloc w2 (.cells ([rU 1, rU 0].flatMap rwC).toArray 62); have HB2 := RowAt.new w2 ([rU 1, rU 0].flatMap rwC).toArray 62; change Calls _ _ _ (w2.alloc (.cells ([rU 1, rU 0].flatMap rwC).toArray 62)) _; obtain ⟨W2, hW2⟩ : ∃ x, w2.alloc (.cells ([rU 1, rU 0].flatMap rwC).toArray 62) = x := ⟨_, rfl⟩; rw [hW2] at hqa HB2 ⊢; refine (rList_c _ _ _ _).mono ?_; rintro en w3 ⟨rfl, hb3⟩; have hb12 := below_up hb1 (below_up hb1' hb2); have hb13 := below_up hb12 (below_up hqa hb3); have D3 := below_up hB1 hb13; have Z3 := Z0.below hb13; have B3 := HB2.below hb3; have hlow : w.heap.size + 2 ≤ w2.heap.size := RowAt.lt (Z0.below hb12); clear hW2; have z0 := RowAt.cell Z3 (i := 0) rfl; have z1 := RowAt.cell Z3 (i := 1) rfl; have z2 := RowAt.cell Z3 (i := 2) rfl; have z3 := RowAt.cell Z3 (i := 3) rfl
    have z4 := RowAt.cell Z3 (i := 4) rfl; have f0 := RowAt.fz Z3 0; have f1 := RowAt.fz Z3 1; have f2 := RowAt.fz Z3 2; have f3 := RowAt.fz Z3 3; have f4 := RowAt.fz Z3 4; go_wp2; obtain ⟨h5, hb5⟩ := set5 Z3 (.int .i64 4) (.int .u64 0) (.slice none 0 0) (.string ⟨#[]⟩) (.slice (some ⟨w2.heap.size, 0, none⟩) 2 2); have B5 := (hb5.same _ B3.lt (by omega)).trans B3; obtain ⟨W5, hW5⟩ : ∃ x, (((((w3.setCell ⟨w.heap.size + 1, 0, none⟩ (.int .i64 4)).setCell ⟨w.heap.size + 1, 1, none⟩ (.int .u64 0)).setCell ⟨w.heap.size + 1, 2, none⟩ (.slice none 0 0)).setCell ⟨w.heap.size + 1, 3, none⟩ (.string ⟨#[]⟩)).setCell ⟨w.heap.size + 1, 4, none⟩ (.slice (some ⟨w2.heap.size, 0, none⟩) 2 2)) = x := ⟨_, rfl⟩; rw [hW5] at h5 hb5 B5 ⊢; have g0 := RowAt.cell h5 (i := 0) rfl; have g1 := RowAt.cell h5 (i := 1) rfl; have g2 := RowAt.cell h5 (i := 2) rfl; have g3 := RowAt.cell h5 (i := 3) rfl; have g4 := RowAt.cell h5 (i := 4) rfl
    refine bodyPost_ret (v := rwV (rL (.slice (some ⟨w2.heap.size, 0, none⟩) 2 2))) (by simp [results, Tryz.results106, go_sem, g0, g1, g2, g3, g4]) rfl ?_; refine ⟨D3.trans (hb5.below (fun k e => by omega) D3.size), _, rfl, itL (its2 (itU _ _ 1 (by decide)) (itU _ _ 0 (by decide))) B5 ⟨by omega, RowAt.lt B5⟩ (by decide)⟩
  · have HNB := Lib.hid (show decide (n = 0 ∧ m = 0) = false from decide_eq_false (fun e => h0 e.1))
    rw [show epI n m = lI [uI 2, lI [uI n, uI m]] from if_neg h0]
    have hw1 : IntKind.u64.wrap (n : Int) = (n : Int) := by rw [IntKind.wrap_u64]; omega
    have hw2 : IntKind.u64.wrap (m : Int) = (m : Int) := by rw [IntKind.wrap_u64]; omega
    clear h0 h; go_enter Tryz.func106, Tryz.ntmps106
    go_wp2_with (go_at_call 129; refine (rNobody_c n m _).mono ?_; rw [HNB.out]; rintro en w1 ⟨rfl, hb1⟩)
    refine wp_region_pt (fun k => k = w.heap.size + 1) (.q 1 (.q 2 (.q 3 (.q 5 (.q 6 (.q 7 (.c 0 (.c 4 (.c 8 (.c 9 (.c 10 (.c 11 (.c 12 (.c 13 .done)))))))))))))) (by kernel_rfl) (by kernel_rfl) (by kernel_rfl) (by decide) (fun _ _ d _ _ h => by cases d <;> exact h) (fun Wd hBd => ?_)
    try simp only [zq]
    have hBb := below_up hb1 hBd; have B0 := below_up hB1 hBb; have Zd := Z0.below hBb; have k0 := RowAt.cell (Q1.below hBb) (i := 0) rfl; have k1 := RowAt.cell (Q1.below hBb) (i := 1) rfl; have hs0 : w.heap.size + 2 ≤ Wd.heap.size := RowAt.lt Zd; refine zt rfl (by rfl) ?_; refine ztg rfl (by rfl) (fun w' hBw' => hBw'.cell k0 (by omega)) ?_; refine zt rfl (by rfl) ?_; refine zt rfl (by rfl) ?_; refine ztg rfl (by rfl) (fun w' hBw' => hBw'.cell k1 (by omega)) ?_; refine zt rfl (by rfl) ?_
    refine zc fun K hK => ?_
    go_simp; refine (rUint2 _).mono ?_; rintro en w1' ⟨rfl, hb1'⟩; refine hK.out _ _ (But.of_below hb1') ?_; clear hK K
    try simp only [zq]
    refine zc fun K hK => ?_
    go_simp; refine (rUint_c n _).mono ?_; rintro en w2 ⟨rfl, hb2⟩; refine hK.out _ _ (But.of_below hb2) ?_; clear hK K
    try simp only [zq]
    refine zc fun K hK => ?_
    go_simp; refine (rUint_c m _).mono ?_; rintro en w3 ⟨rfl, hb3⟩; refine hK.out _ _ (But.of_below hb3) ?_; clear hK K
    try simp only [zq]
    refine pt_c ?_; refine pt_buildSlice rfl (by rfl) 59 62 2 #[(0, .tmp 13), (1, .tmp 17)] rfl ([rU n, rU m].flatMap rwC).toArray iI _ Tryz.underlying59 hiI hzI (by rw [hsI]; decide) (by rw [hsI]; decide) [(0, rwV (rU n)), (1, rwV (rU m))] rfl (by rw [hsI]; exact filled2 _ _) ?_
    try simp only [zq]
    have I4 := RowAt.new w3 ([rU n, rU m].flatMap rwC).toArray 62; have hq4 := below_alloc w3 (.cells ([rU n, rU m].flatMap rwC).toArray 62); obtain ⟨W4, hW4⟩ : ∃ x, w3.alloc (.cells ([rU n, rU m].flatMap rwC).toArray 62) = x := ⟨_, rfl⟩; rw [hW4] at I4 hq4 ⊢
    refine zc fun K hK => ?_
    go_simp; refine (rList_c _ _ _ _).mono ?_; rintro en w6 ⟨rfl, hb6⟩; refine hK.out _ _ (But.of_below hb6) ?_; clear hK K
    try simp only [zq]
    refine pt_c ?_; refine pt_buildSlice rfl (by rfl) 59 62 2 #[(0, .tmp 9), (1, .tmp 19)] rfl ([rU 2, rL (.slice (some ⟨w3.heap.size, 0, none⟩) 2 2)].flatMap rwC).toArray iI _ Tryz.underlying59 hiI hzI (by rw [hsI]; decide) (by rw [hsI]; decide) [(0, rwV (rU 2)), (1, rwV (rL (.slice (some ⟨w3.heap.size, 0, none⟩) 2 2)))] rfl (by rw [hsI]; exact filled2 _ _) ?_
    try simp only [zq]
    have O7 := RowAt.new w6 ([rU 2, rL (.slice (some ⟨w3.heap.size, 0, none⟩) 2 2)].flatMap rwC).toArray 62; have hq7 := below_alloc w6 (.cells ([rU 2, rL (.slice (some ⟨w3.heap.size, 0, none⟩) 2 2)].flatMap rwC).toArray 62); obtain ⟨W7, hW7⟩ : ∃ x, w6.alloc (.cells ([rU 2, rL (.slice (some ⟨w3.heap.size, 0, none⟩) 2 2)].flatMap rwC).toArray 62) = x := ⟨_, rfl⟩; rw [hW7] at O7 hq7 ⊢
    refine zc fun K hK => ?_
    go_simp; refine (rList_c _ _ _ _).mono ?_; rintro en w8 ⟨rfl, hb8⟩; refine hK.out _ _ (But.of_below hb8) ?_; clear hK K
    try simp only [zq]
    have hs3 : w.heap.size + 2 ≤ w3.heap.size := RowAt.lt (Zd.below (below_up hb1' (below_up hb2 hb3))); have hs6 : w3.heap.size < w6.heap.size := RowAt.lt (RowAt.below I4 hb6); have h18 := below_up hb1' (below_up hb2 (below_up hb3 (below_up hq4 (below_up hb6 (below_up hq7 hb8))))); have Z8 := Zd.below h18; have D8 := below_up B0 h18; have I8 := RowAt.below I4 (below_up hb6 (below_up hq7 hb8)); have O8 := RowAt.below O7 hb8; refine pt_c ?_; refine pt_put_row rfl (by rfl) 62 _ _ rfl (w.heap.size + 1) (rwC (rL (.slice (some ⟨w6.heap.size, 0, none⟩) 2 2))) rfl rfl Z8 rfl (by kernel_rfl) rfl rfl ?_
    try simp only [zq]
    intro w9 R9 hb9; have D9 := D8.trans (hb9.below (fun k e => by omega) D8.size); have I9 := (hb9.same _ (RowAt.lt I8) (by omega)).trans I8; have O9 := (hb9.same _ (RowAt.lt O8) (by omega)).trans O8; refine pt_done ?_; go_wp2; have g0 := RowAt.cell R9 (i := 0) rfl; have g1 := RowAt.cell R9 (i := 1) rfl; have g2 := RowAt.cell R9 (i := 2) rfl; have g3 := RowAt.cell R9 (i := 3) rfl; have g4 := RowAt.cell R9 (i := 4) rfl; refine bodyPost_ret (v := rwV (rL (.slice (some ⟨w6.heap.size, 0, none⟩) 2 2))) (by simp [results, Tryz.results106, go_sem, g0, g1, g2, g3, g4]) rfl ?_; refine ⟨D9, _, rfl, itL (its2 (itU _ _ 2 (by decide)) (itL (its2 (itU _ _ n (by omega)) (itU _ _ m (by omega))) I9 ⟨by omega, RowAt.lt I9⟩ (by show 2 ≤ 1000; decide))) O9 ⟨by omega, RowAt.lt O9⟩ (by show 2 ≤ 1000; decide)⟩
end Go.Proofs.YtpkonagjnfphkaaGreatDoor
namespace Go.Proofs.YtpkonagjnfphkaaGreatDoor
namespace Srt
variable {α : Type} {lt : α → α → Bool}
structure TO (lt : α → α → Bool) : Prop where
  asym : ∀ x y, lt x y = true → lt y x = false
  trans : ∀ x y z, lt y x = false → lt z y = false → lt z x = false
  anti : ∀ x y, lt x y = false → lt y x = false → x = y
def Sorted (lt : α → α → Bool) (L : List α) : Prop := L.Pairwise fun x y => lt y x = false
theorem TO.refl (h : TO lt) (x : α) : lt x x = false := by
  cases hx : lt x x with
  | false => rfl
  | true => exact (hx.symm.trans (h.asym x x hx))
theorem Sorted.nil : Sorted lt [] := List.Pairwise.nil
theorem Sorted.one (x : α) : Sorted lt [x] := List.pairwise_singleton _ _
theorem Sorted.left {A B : List α} (h : Sorted lt (A ++ B)) : Sorted lt A := (List.pairwise_append.1 h).1
theorem Sorted.right {A B : List α} (h : Sorted lt (A ++ B)) : Sorted lt B := (List.pairwise_append.1 h).2.1
theorem Sorted.cross {A B : List α} (h : Sorted lt (A ++ B)) : ∀ x ∈ A, ∀ y ∈ B, lt y x = false := (List.pairwise_append.1 h).2.2
theorem last_split {A : List α} {y : α} (h : A.getLast? = some y) : A = A.dropLast ++ [y] := by
  obtain ⟨B, rfl⟩ := List.getLast?_eq_some_iff.1 h; simp
theorem Sorted.last (h : TO lt) {A : List α} (hA : Sorted lt A) {x y : α} (hx : x ∈ A) (hy : A.getLast? = some y) : lt y x = false := by
  obtain ⟨A', rfl⟩ : ∃ A', A = A' ++ [y] := by
    have hne : A ≠ [] := fun e => by rw [e] at hx; cases hx
    exact ⟨A.dropLast, last_split hy⟩
  rcases List.mem_append.1 hx with hx | hx
  · exact hA.cross x hx y (by simp)
  · rw [List.mem_singleton] at hx; rw [hx]; exact h.refl y
theorem Sorted.first (h : TO lt) {A : List α} (hA : Sorted lt A) {x y : α} (hx : x ∈ A) (hy : A.head? = some y) : lt x y = false := by
  cases A with
  | nil => cases hx
  | cons a r =>
    simp only [List.head?_cons, Option.some.injEq] at hy; subst hy; rcases List.mem_cons.1 hx with rfl | hx
    · exact h.refl _
    · exact (List.pairwise_cons.1 hA).1 x hx
def Blocks (lt : α → α → Bool) (s : Nat) (L : List α) : Prop := ∀ k, Sorted lt ((L.drop (k * s)).take s)
theorem Blocks.all {s : Nat} {L : List α} (h : Blocks lt s L) (hs : L.length ≤ s) : Sorted lt L := by
  have := h 0
  rwa [Nat.zero_mul, List.drop_zero, List.take_of_length_le hs] at this
end Srt
end Go.Proofs.YtpkonagjnfphkaaGreatDoor
namespace Go.Proofs.YtpkonagjnfphkaaGreatDoor
open Go.RowKit
section
variable {α : Type} {cells : α → List Value} {sz : Nat}
abbrev Arr (w : World) (b : Nat) (T : TypeId) (J : List Value) (cells : α → List Value) (L : List α) : Prop := RowAt w b (L.flatMap cells ++ J).toArray T
theorem arr_len (hsz : ∀ x, (cells x).length = sz) : ∀ L : List α, (L.flatMap cells).length = L.length * sz
  | [] => by simp
  | x :: r => by rw [List.flatMap_cons, List.length_append, hsz, arr_len hsz r, List.length_cons, Nat.succ_mul, Nat.add_comm]
theorem arr_get (hsz : ∀ x, (cells x).length = sz) {J : List Value} : ∀ (L : List α) (i : Nat) (hi : i < L.length) (j : Nat), j < sz → (L.flatMap cells ++ J)[i * sz + j]? = (cells L[i])[j]?
  | [], i, hi, j, hj => by simp at hi
  | x :: r, 0, hi, j, hj => by
    rw [List.flatMap_cons, Nat.zero_mul, Nat.zero_add, List.append_assoc, List.getElem?_append_left (by rw [hsz]; exact hj)]; rfl
  | x :: r, i + 1, hi, j, hj => by
    have := arr_get hsz (J := J) r i (by simpa using hi) j hj; rw [List.flatMap_cons, List.append_assoc, List.getElem?_append_right (by rw [hsz, Nat.succ_mul]; omega), hsz, Nat.succ_mul, show i * sz + sz + j - sz = i * sz + j by omega, this]; rfl
theorem Arr.rec {w : World} {b : Nat} {T : TypeId} {J : List Value} {L : List α} (h : Arr w b T J cells L) (hsz : ∀ x, (cells x).length = sz) {i : Nat} (hi : i < L.length) : w.rangeAt b (i * sz) (cells L[i]) := fun j v hj => by
  have hjs : j < sz := by
    have := (List.getElem?_eq_some_iff.1 hj).1
    rwa [hsz] at this
  exact RowAt.cell h (by rw [List.getElem?_toArray, arr_get hsz L i hi j hjs]; exact hj)
theorem arr_set (hsz : ∀ x, (cells x).length = sz) {J : List Value} (L : List α) (i : Nat) (hi : i < L.length) (x : α) : setAllA (L.flatMap cells ++ J).toArray (i * sz) (cells x) = ((L.set i x).flatMap cells ++ J).toArray := by
  have hl := arr_len hsz L; have hl2 := arr_len hsz (L.set i x); rw [List.length_set] at hl2
  have hmul : i * sz + sz ≤ L.length * sz := by rw [← Nat.succ_mul]; exact Nat.mul_le_mul_right _ hi
  refine Array.ext_getElem? fun k => ?_
  rw [setAllA_get _ _ _ _ (by rw [hsz, List.size_toArray, List.length_append]; omega), hsz]; by_cases hk : i * sz ≤ k ∧ k < i * sz + sz
  · rw [if_pos hk, List.getElem?_toArray]
    have := arr_get hsz (J := J) (L.set i x) i (by rw [List.length_set]; exact hi) (k - i * sz) (by omega); rw [show i * sz + (k - i * sz) = k by omega, List.getElem_set_self] at this; rw [this]
  · rw [if_neg hk, List.getElem?_toArray, List.getElem?_toArray]
    by_cases hkl : k < L.length * sz
    · have hz : 0 < sz := by
        rcases Nat.eq_zero_or_pos sz with h0 | h0
        · rw [h0] at hkl; omega
        · exact h0
      have hq : k / sz < L.length := Nat.div_lt_of_lt_mul (by rw [Nat.mul_comm]; exact hkl)
      have hqe : k / sz * sz + k % sz = k := by rw [Nat.mul_comm]; exact Nat.div_add_mod k sz
      have hm : k % sz < sz := Nat.mod_lt _ hz
      have hne : i ≠ k / sz := by
        intro e; rw [← e] at hqe; omega
      have h1 := arr_get hsz (J := J) L (k / sz) hq (k % sz) hm; have h2 := arr_get hsz (J := J) (L.set i x) (k / sz) (by rw [List.length_set]; exact hq) (k % sz) hm; rw [hqe] at h1 h2; rw [h1, h2, List.getElem_set_ne hne]
    · rw [List.getElem?_append_right (by omega), List.getElem?_append_right (by omega), hl, hl2]
theorem Arr.put {w : World} {b : Nat} {T : TypeId} {J : List Value} {L : List α} (h : Arr w b T J cells L) (hsz : ∀ x, (cells x).length = sz) {i : Nat} (hi : i < L.length) (x : α) : Arr (w.setCells b (i * sz) (cells x)) b T J cells (L.set i x) := by
  have := RowAt.sets (cells x) (i * sz) h
  rwa [arr_set hsz L i hi x] at this
theorem Arr.there {w : World} {b : Nat} {T : TypeId} {J : List Value} {L : List α} (h : Arr w b T J cells L) (hsz : ∀ x, (cells x).length = sz) {i : Nat} (hi : i < L.length) : w.there b (i * sz) sz := fun j hj => by
  have hl := arr_len hsz L
  have hmul : i * sz + sz ≤ L.length * sz := by rw [← Nat.succ_mul]; exact Nat.mul_le_mul_right _ hi
  exact ⟨by rw [RowAt.cell h (Array.getElem?_eq_getElem (by rw [List.size_toArray, List.length_append]; omega))]; rfl, RowAt.fz h _⟩
theorem Arr.at {w : World} {b : Nat} {T : TypeId} {J : List Value} {L : List α} (h : Arr w b T J cells L) (hsz : ∀ x, (cells x).length = sz) {i : Nat} {x : α} (hx : L[i]? = some x) : w.rangeAt b (i * sz) (cells x) := by
  obtain ⟨hi, rfl⟩ := List.getElem?_eq_some_iff.1 hx; exact h.rec hsz hi
theorem take_snoc {X : List α} {j : Nat} {x : α} (h : X[j]? = some x) : X.take (j + 1) = X.take j ++ [x] := by
  obtain ⟨hj, rfl⟩ := List.getElem?_eq_some_iff.1 h; exact List.take_succ_eq_append_getElem hj
end
section
variable {P : Program} {ops : Array Oper} {Q : Exit → Act → World → Prop} {O : Nat → Prop}
end
section
variable {α : Type} {cells : α → List Value}
end
section
variable {α : Type} {cells : α → List Value}
end
end Go.Proofs.YtpkonagjnfphkaaGreatDoor
namespace Go.Proofs.YtpkonagjnfphkaaGreatDoor
open Go.RowKit Srt
section
variable {α : Type} {cells : α → List Value} {cf : α → α → Int}
end
end Go.Proofs.YtpkonagjnfphkaaGreatDoor
namespace Go.Proofs.YtpkonagjnfphkaaGreatDoor
open Go.RowKit Srt Trc
namespace Trc
end Trc
end Go.Proofs.YtpkonagjnfphkaaGreatDoor
namespace Go.Proofs.YtpkonagjnfphkaaGreatDoor
open Go.RowKit Trc Cb
namespace Dig
end Dig
abbrev lexB (a b c d a' b' c' d' : Int) : Prop := a < a' ∨ a = a' ∧ (b < b' ∨ b = b' ∧ (c < c' ∨ c = c' ∧ d < d'))
theorem readU_ep0 : readU (epI 0 0) = [1, 0] := by decide
theorem readU_ep (n m : Nat) (h : n ≠ 0) : readU (epI n m) = [2, (n : Int), (m : Int)] := by
  unfold epI; rw [if_neg h]; simp [readU, usK, usT, It.k, It.l, It.n]
end Go.Proofs.YtpkonagjnfphkaaGreatDoor
namespace Go.Proofs.YtpkonagjnfphkaaGreatDoor
open Go.RowKit Cb
def shB (x : It) (K : List Int) : Bool := (x.k == 4) && (x.l.map It.k == K)
theorem shapeR_c (S : Nat → Prop) (x : It) (K : List Int) (r : Rw) (u : Value) (n : Nat) (w : World) (hx : ItR S w x r) (hu : Sl w 1 u n (K.map (.int .i64))) (hcx : cnt x ≤ 1000000) : Calls Tryz.prog 68 #[rwV r, u] w (Ret (.bool (shB x K)) w) := by
  obtain ⟨k1, n1, ba1, bn1, bc1, s1, la1, ln1, lc1, rfl⟩ := hx.shape; obtain ⟨rows, p⟩ := hx.parts
  have hK : K.length = n := by have := hu.1; simpa using this
  have hll : ln1 = x.l.length := by obtain ⟨a, c, h⟩ := p.l.1.len; simp at h; omega
  have hrl : rows.length = x.l.length := p.each.len; have hkk : x.k = k1 := p.k.symm; obtain ⟨R, hR⟩ : ∃ R, R = shB x K := ⟨_, rfl⟩; rw [← hR]; have hb0 := below_alloc w (.cells (rwC ⟨k1, n1, .slice ba1 bn1 bc1, s1, .slice la1 ln1 lc1⟩).toArray 62); have X0 := RowAt.new w (rwC ⟨k1, n1, .slice ba1 bn1 bc1, s1, .slice la1 ln1 lc1⟩).toArray 62
  have hcl : x.l.length ≤ 1000000 := by have := cntL_len x.l; cases x; simp only [cnt, It.l] at *; omega
  by_cases h4 : k1 = 4
  · subst h4
    by_cases hn : ln1 = n
    · subst hn
      have hRe : R = (x.l.map It.k == K) := by rw [hR]; unfold shB; rw [hkk]; simp
      have hu2 : Sl w 1 u ln1 (K.flatMap fun y => [.int .i64 y]) := by rw [List.map_eq_flatMap] at hu; exact hu
      obtain ⟨a, c, rfl⟩ := hu.len
      have hl2 : Sl w 5 (.slice la1 ln1 lc1) ln1 (rows.flatMap rwC) := by have := p.l.1; rw [← hll] at this; exact this
      have x4 := X0.cell (i := 4) rfl; have HRE := Lib.hid hRe; have HU := Lib.hid hu2; have HL := Lib.hid hl2; have HE := Lib.hid p.each; have HLL := Lib.hid hll; have HRL := Lib.hid hrl; have HK := Lib.hid hK; have HB0 := Lib.hid hb0; have HX0 := Lib.hid X0
      have hln : (ln1 : Nat) ≤ 1000000 := by omega
      clear hR hRe p hx hu hu2 hl2 hll hrl hkk hK hcl hb0 X0 hcx; go_enter Tryz.func68, Tryz.ntmps68; go_wp2
      go_loopw [5] (fun i wr => ∃ j : Nat, j ≤ ln1 ∧ i = .int .i64 j ∧ RowKit.Hid ((x.l.map It.k).take j = K.take j) ∧ Below (w.alloc (.cells (rwC ⟨4, n1, .slice ba1 bn1 bc1, s1, .slice la1 ln1 lc1⟩).toArray 62)).heap.size (w.alloc (.cells (rwC ⟨4, n1, .slice ba1 bn1 bc1, s1, .slice la1 ln1 lc1⟩).toArray 62)) wr) (fun i _ => ln1 - (intOf i).toNat)
      case atStart => exact ⟨0, Nat.zero_le _, rfl, Lib.hid (by simp), Below.refl _ _⟩
      case round =>
        obtain ⟨j, hj, rfl, Hsame, hB⟩ := hrel; have HB := Lib.hid (below_up HB0.out hB); by_cases hlt : j < ln1
        · have hl' : j < x.l.length := by rw [← HLL.out]; exact hlt
          have hr' : j < rows.length := by rw [HRL.out]; exact hl'
          have hk' : j < K.length := by rw [HK.out]; exact hlt
          obtain ⟨b, off, rfl, hr⟩ := (HL.out.up HB.out).rec_at (cells := rwC) (sz := 5) (fun _ => rfl) hlt hr'; obtain ⟨b2, off2, rfl, hr2⟩ := (HU.out.up HB.out).rec_at (cells := fun y : Int => [.int .i64 y]) (sz := 1) (fun _ => rfl) hlt hk'; have c1 := hr 0 _ rfl; have c2 := hr2 0 _ rfl; have x5 := (HX0.out.below hB).cell (i := 4) rfl; obtain ⟨rows2, q⟩ := (HE.out.get hl' hr').parts; have hkq := q.k
          have hs1 : (x.l.map It.k).take (j + 1) = (x.l.map It.k).take j ++ [x.l[j].k] := by rw [List.take_succ_eq_append_getElem (by rw [List.length_map]; exact hl')]; simp
          have hs2 : K.take (j + 1) = K.take j ++ [K[j]] := List.take_succ_eq_append_getElem hk'; have Hs := Lib.hid (fun h : x.l[j].k = K[j] => show (x.l.map It.k).take (j + 1) = K.take (j + 1) by rw [hs1, hs2, h, Hsame.out])
          have Hno := Lib.hid (fun h : ¬ x.l[j].k = K[j] => show R = false by
            rw [HRE.out, beq_eq_false_iff_ne]; intro e; refine h ?_; have := congrArg (fun l => l[j]?) e
            simpa [hl', hk'] using this)
          have hlti : (j : Int) < (ln1 : Int) := by omega
          have hB2 := hB; clear hs1 hs2 q hr hr2 hB x4; simp only [Nat.mul_one, Nat.add_zero] at c1 c2; rw [hkq] at c1; generalize x.l[j].k = kk at *; generalize K[j] = KK at *; by_cases he : kk = KK
          · subst he
            have HS := Lib.hid (Hs.out rfl); clear Hs Hno; go_wp2; refine wp_region_pt (fun _ => False) (.q 0 (.q 1 (.q 2 (.q 3 (.q 4 (.q 5 (.q 6 (.q 7 (.q 8 (.q 9 (.q 10 .done))))))))))) (by kernel_rfl) (by kernel_rfl) (by kernel_rfl) (by decide) (fun _ _ d _ _ h => by cases d <;> exact h) (fun Wd hBd => ?_)
            try simp only [zq]
            have d1 := cell_up hBd c1; have d2 := cell_up hBd c2; have d5 := cell_up hBd x5; refine zt rfl (by rfl) ?_; refine ztg rfl (by rfl) (fun w' hBw' => hBw'.cell d5 (fun e => e)) ?_; refine zt rfl (by rfl) ?_; refine zt rfl (by rfl) ?_; refine zt rfl (by rfl) ?_; refine ztg rfl (by rfl) (fun w' hBw' => hBw'.cell d1 (fun e => e)) ?_; refine zt rfl (by rfl) ?_; refine zt rfl (by rfl) ?_; refine zt rfl (by rfl) ?_; refine ztg rfl (by rfl) (fun w' hBw' => hBw'.cell d2 (fun e => e)) ?_; refine zt rfl (by rfl) ?_; refine pt_done ?_; go_wp2; have HB2 := Lib.hid (hB2.trans (hBd.mono hB2.size))
            go_roundw
            case rel => exact ⟨j + 1, by omega, by go_num, HS, HB2.out⟩
            case measure => simp [intOf]; omega
          · have HRF := Lib.hid (Hno.out he)
            clear Hs Hno; go_wp2; refine wp_region_pt (fun _ => False) (.q 0 (.q 1 (.q 2 (.q 3 (.q 4 (.q 5 (.q 6 (.q 7 (.q 8 (.q 9 (.q 10 .done))))))))))) (by kernel_rfl) (by kernel_rfl) (by kernel_rfl) (by decide) (fun _ _ d _ _ h => by cases d <;> exact h) (fun Wd hBd => ?_)
            try simp only [zq]
            have d1 := cell_up hBd c1; have d2 := cell_up hBd c2; have d5 := cell_up hBd x5; refine zt rfl (by rfl) ?_; refine ztg rfl (by rfl) (fun w' hBw' => hBw'.cell d5 (fun e => e)) ?_; refine zt rfl (by rfl) ?_; refine zt rfl (by rfl) ?_; refine zt rfl (by rfl) ?_; refine ztg rfl (by rfl) (fun w' hBw' => hBw'.cell d1 (fun e => e)) ?_; refine zt rfl (by rfl) ?_; refine zt rfl (by rfl) ?_; refine zt rfl (by rfl) ?_; refine ztg rfl (by rfl) (fun w' hBw' => hBw'.cell d2 (fun e => e)) ?_; refine zt rfl (by rfl) ?_; refine pt_done ?_; go_wp2; go_ret; exact ⟨retB HRF.out.symm, below_up HB.out hBd⟩
        · obtain rfl : j = ln1 := by omega
          have HRT : R = true := by
            rw [HRE.out, beq_iff_eq]; have := Hsame.out
            rwa [List.take_of_length_le (by rw [List.length_map, ← HLL.out]; exact Nat.le_refl _), List.take_of_length_le (by rw [HK.out]; exact Nat.le_refl _)] at this
          go_wp2; go_ret; exact ⟨retB HRT.symm, HB.out⟩
    · have hf : R = false := by
        rw [hR]; unfold shB; rw [hkk]
        have : ¬ x.l.map It.k = K := fun e => hn (by rw [← hK, ← e, List.length_map, hll])
        simp [this]
      obtain ⟨a, c, rfl⟩ := hu.len
      have hne : ¬ ((ln1 : Int) = (n : Int)) := by omega
      have x4 := X0.cell (i := 4) rfl; rw [hf]; clear hR hf p hx hu hll hrl hkk hK hcl; go_enter Tryz.func68, Tryz.ntmps68; go_wp2; go_ret; exact ⟨rfl, hb0⟩
  · have hf : R = false := by
      rw [hR]; unfold shB; rw [hkk]; simp [h4]
    rw [hf]; clear hR hf p hx hll hrl hkk hK hcl; obtain ⟨a, c, rfl⟩ := hu.len; go_enter Tryz.func68, Tryz.ntmps68; go_wp2; go_ret; exact ⟨rfl, hb0⟩
end Go.Proofs.YtpkonagjnfphkaaGreatDoor
