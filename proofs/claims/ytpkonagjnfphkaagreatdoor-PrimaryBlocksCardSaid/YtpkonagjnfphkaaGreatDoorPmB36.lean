/-
  PrE, PrF, PrG, OpenB: several texts in one (bundle.py).
-/
import Derived.Test.YtpkonagjnfphkaaGreatDoorPmB34
import Derived.Test.YtpkonagjnfphkaaGreatDoorPmB33
import Derived.Test.YtpkonagjnfphkaaGreatDoorPmB23
import Derived.Test.YtpkonagjnfphkaaGreatDoorPmB14
import Derived.Test.YtpkonagjnfphkaaGreatDoorPmB15
import Derived.Test.YtpkonagjnfphkaaGreatDoorPmB02
import Derived.Test.YtpkonagjnfphkaaGreatDoorPmB01
import Derived.Test.YtpkonagjnfphkaaGreatDoorPmB04
import Derived.SizedLaws
namespace Go.Proofs.YtpkonagjnfphkaaGreatDoor
open Go.RowKit Trc Cb
set_option linter.unusedSimpArgs false
set_option linter.unusedVariables false
set_option maxRecDepth 100000 in
theorem prNumI_c (n : Nat) (h : n < 9223372036854775808) (w : World) : Calls Tryz.prog 76 #[.int .i64 n] w (Ret (rwV (rU n)) w) := by
  have hw : IntKind.u64.wrap (n : Int) = (n : Int) := by rw [IntKind.wrap_u64]; omega
  go_enter Tryz.func76, Tryz.ntmps76
  go_wp2
  refine bodyPost_ret (v := rwV (rU n)) (by simp [results, Tryz.results76, go_sem]) rfl ?_
  exact ⟨rfl, below_alloc _ _⟩
set_option maxRecDepth 100000 in
theorem prNum32_c (n : Nat) (h : n < 4294967296) (w : World) : Calls Tryz.prog 78 #[.int .u32 n] w (Ret (rwV (rU n)) w) := by
  have hw : IntKind.u64.wrap (n : Int) = (n : Int) := by rw [IntKind.wrap_u64]; omega
  go_enter Tryz.func78, Tryz.ntmps78
  go_wp2
  refine bodyPost_ret (v := rwV (rU n)) (by simp [results, Tryz.results78, go_sem]) rfl ?_
  exact ⟨rfl, below_alloc _ _⟩
set_option maxRecDepth 100000 in
theorem prNum64_c (n : Nat) (h : n < 18446744073709551616) (w : World) : Calls Tryz.prog 87 #[.int .u64 n] w (Ret (rwV (rU n)) w) := by
  have hw : IntKind.u64.wrap (n : Int) = (n : Int) := by rw [IntKind.wrap_u64]; omega
  go_enter Tryz.func87, Tryz.ntmps87
  go_wp2
  refine bodyPost_ret (v := rwV (rU n)) (by simp [results, Tryz.results87, go_sem]) rfl ?_
  exact ⟨rfl, below_alloc _ _⟩
set_option maxRecDepth 100000 in
theorem prNumK_c (n : Nat) (h : n < 9223372036854775808) (w : World) : Calls Tryz.prog 80 #[.int .i64 n] w (Ret (rwV (rU n)) w) := by
  have hw : IntKind.u64.wrap (n : Int) = (n : Int) := by rw [IntKind.wrap_u64]; omega
  go_enter Tryz.func80, Tryz.ntmps80
  go_wp2
  refine bodyPost_ret (v := rwV (rU n)) (by simp [results, Tryz.results80, go_sem]) rfl ?_
  exact ⟨rfl, below_alloc _ _⟩
theorem prNumI7 (w : World) : Calls Tryz.prog 76 #[.int .i64 7] w (Ret (rwV (rU 7)) w) := prNumI_c 7 (by decide) w
set_option maxRecDepth 100000 in
theorem prList_c (a : Option Addr) (n c : Nat) (w : World) : Calls Tryz.prog 86 #[.slice a n c] w (Ret (rwV (rL (.slice a n c))) w) := by
  go_enter Tryz.func86, Tryz.ntmps86
  go_wp2
  refine bodyPost_ret (v := rwV (rL (.slice a n c))) (by simp [results, Tryz.results86, go_sem]) rfl ?_
  exact ⟨rfl, below_alloc _ _⟩
/-- The end of a function that stores an item in its result's cells. -/
theorem made_end {x : It} {w w3 : World} {Z : Nat} {cs : Array Value} {k n : Int} {ba : Option Addr} {bn bc : Nat} {s : ByteArray} {la : Option Addr} {ln lc : Nat} (Z3 : RowAt w3 Z cs 62) (hc : cs.size = 5) (hZ : w.heap.size ≤ Z)
    (D3 : Below w.heap.size w w3) (hi : ItR (fun j => Z < j ∧ j < w3.heap.size) w3 x ⟨k, n, .slice ba bn bc, s, .slice la ln lc⟩) :
    RowAt (((((w3.setCell ⟨Z, 0, none⟩ (.int .i64 k)).setCell ⟨Z, 1, none⟩ (.int .u64 n)).setCell ⟨Z, 2, none⟩ (.slice ba bn bc)).setCell ⟨Z, 3, none⟩ (.string s)).setCell ⟨Z, 4, none⟩ (.slice la ln lc)) Z (rwC ⟨k, n, .slice ba bn bc, s, .slice la ln lc⟩).toArray 62 ∧ MadeE x w (.returned (rwV ⟨k, n, .slice ba bn bc, s, .slice la ln lc⟩)) (((((w3.setCell ⟨Z, 0, none⟩ (.int .i64 k)).setCell ⟨Z, 1, none⟩ (.int .u64 n)).setCell ⟨Z, 2, none⟩ (.slice ba bn bc)).setCell ⟨Z, 3, none⟩ (.string s)).setCell ⟨Z, 4, none⟩ (.slice la ln lc)) := by
  obtain ⟨c0, c1, c2, c3, c4, rfl⟩ : ∃ c0 c1 c2 c3 c4, cs = #[c0, c1, c2, c3, c4] := by
    obtain ⟨l⟩ := cs
    match l, hc with
    | [a, b, c, d, e], _ => exact ⟨a, b, c, d, e, rfl⟩
  obtain ⟨h5, hb5⟩ := set5 Z3 (.int .i64 k) (.int .u64 n) (.slice ba bn bc) (.string s) (.slice la ln lc)
  refine ⟨h5, D3.trans (hb5.below (fun j e => by omega) D3.size), _, rfl, ?_⟩
  have hi2 := hi.but hb5 (fun j e h => by omega)
  exact hi2.mono fun j e => ⟨by omega, by have := hb5.size; omega⟩
set_option maxHeartbeats 1000000 in
set_option maxRecDepth 100000 in
theorem prPoint_c (n m : Nat) (hn : n < 4294967296) (hm : m < 4294967296) (hc : Dig.chkP n m = 0) (w : World) : Calls Tryz.prog 82 #[epV n m] w (MadeE (epI n m) w) := by
  have hW1 := (below_alloc w (.cells #[.int .u32 n, .int .u32 m] 25)).alloc (by simp) (.cells #[.int .i64 0, .int .u64 0, .slice none 0 0, .string ⟨#[]⟩, .slice none 0 0] 62)
  have Z0 : RowAt ((w.alloc (.cells #[.int .u32 n, .int .u32 m] 25)).alloc (.cells #[.int .i64 0, .int .u64 0, .slice none 0 0, .string ⟨#[]⟩, .slice none 0 0] 62)) (w.heap.size + 1) #[.int .i64 0, .int .u64 0, .slice none 0 0, .string ⟨#[]⟩, .slice none 0 0] 62 := by
    have := RowAt.new (w.alloc (.cells #[.int .u32 n, .int .u32 m] 25)) #[.int .i64 0, .int .u64 0, .slice none 0 0, .string ⟨#[]⟩, .slice none 0 0] 62
    rwa [World.size_alloc] at this
  have hcl := nmItem_c n m hn hm ((w.alloc (.cells #[.int .u32 n, .int .u32 m] 25)).alloc (.cells #[.int .i64 0, .int .u64 0, .slice none 0 0, .string ⟨#[]⟩, .slice none 0 0] 62))
  rw [if_pos hc, hc] at hcl
  have hs0 : ((w.alloc (.cells #[.int .u32 n, .int .u32 m] 25)).alloc (.cells #[.int .i64 0, .int .u64 0, .slice none 0 0, .string ⟨#[]⟩, .slice none 0 0] 62)).heap.size = w.heap.size + 2 := by simp
  have HCL := Lib.hid hcl
  have HZ0 := Lib.hid Z0
  have HW1 := Lib.hid hW1
  have HS0 := Lib.hid hs0
  clear hcl Z0 hW1 hs0 hc
  go_enter Tryz.func82, Tryz.ntmps82
  go_wp2_with fail
  refine HCL.out.mono ?_
  rintro en w1 ⟨hb1, r8, rfl, hi8⟩
  obtain ⟨k8, n8, ba8, bn8, bc8, s8, la8, ln8, lc8, rfl⟩ := hi8.shape
  have hb2 := below_up hb1 (below_alloc w1 (.cells (rwC ⟨k8, n8, .slice ba8 bn8 bc8, s8, .slice la8 ln8 lc8⟩).toArray 62))
  have D2 := Lib.hid (below_up HW1.out hb2)
  have Z2 := HZ0.out.below hb2
  have hi2 := hi8.up (below_alloc w1 (.cells (rwC ⟨k8, n8, .slice ba8 bn8 bc8, s8, .slice la8 ln8 lc8⟩).toArray 62))
  have Y2 := RowAt.new w1 (rwC ⟨k8, n8, .slice ba8 bn8 bc8, s8, .slice la8 ln8 lc8⟩).toArray 62
  have hs2 := hb1.size
  have HI2 := Lib.hid hi2
  have HSS := Lib.hid (show w.heap.size + 2 ≤ w1.heap.size by have := HS0.out; omega)
  clear hb1 hb2 hi8 hi2 hs2
  have y0 := Y2.cell (i := 0) (v := .int .i64 k8) rfl
  have y1 := Y2.cell (i := 1) (v := .int .u64 n8) rfl
  have y2 := Y2.cell (i := 2) (v := .slice ba8 bn8 bc8) rfl
  have y3 := Y2.cell (i := 3) (v := .string s8) rfl
  have y4 := Y2.cell (i := 4) (v := .slice la8 ln8 lc8) rfl
  have z0 := Z2.cell (i := 0) rfl
  have z1 := Z2.cell (i := 1) rfl
  have z2 := Z2.cell (i := 2) rfl
  have z3 := Z2.cell (i := 3) rfl
  have z4 := Z2.cell (i := 4) rfl
  have f0 := Z2.fz 0
  have f1 := Z2.fz 1
  have f2 := Z2.fz 2
  have f3 := Z2.fz 3
  have f4 := Z2.fz 4
  go_wp2_with (first
    | (go_at_call 42; with_reducible refine (prMust_yes _ _).mono ?_; rintro en wn ⟨rfl, rfl⟩))
  obtain ⟨h5, hm⟩ := made_end (w := w) Z2 rfl (by omega) D2.out (HI2.out.mono (S' := fun j => w.heap.size + 1 < j ∧ j < (w1.alloc (.cells (rwC ⟨k8, n8, .slice ba8 bn8 bc8, s8, .slice la8 ln8 lc8⟩).toArray 62)).heap.size) (fun j e => ⟨by have h1 := e.1; simp at h1; omega, by have := e.2; simp; omega⟩))
  have g0 := RowAt.cell h5 (i := 0) rfl
  have g1 := RowAt.cell h5 (i := 1) rfl
  have g2 := RowAt.cell h5 (i := 2) rfl
  have g3 := RowAt.cell h5 (i := 3) rfl
  have g4 := RowAt.cell h5 (i := 4) rfl
  exact bodyPost_ret (v := rwV ⟨k8, n8, .slice ba8 bn8 bc8, s8, .slice la8 ln8 lc8⟩) (by simp [results, Tryz.results82, go_sem, g0, g1, g2, g3, g4]) rfl hm
set_option maxHeartbeats 1000000 in
set_option maxRecDepth 100000 in
theorem prPart1_c (p : Prm.Pr) (hp : p.Ok) (hk : Prm.okPr p = true) (w : World) : Calls Tryz.prog 75 #[prV p] w (MadeE (uI 7) w) := by
  obtain ⟨hkf, hks, hkt, hkr, hktm, hkl⟩ := Prm.okPr_parts hk
  have hW1 := (below_alloc w (.cells (prC p).toArray 76)).alloc (by simp) (.cells #[.int .i64 0, .int .u64 0, .slice none 0 0, .string ⟨#[]⟩, .slice none 0 0] 62)
  have Z0 : RowAt ((w.alloc (.cells (prC p).toArray 76)).alloc (.cells #[.int .i64 0, .int .u64 0, .slice none 0 0, .string ⟨#[]⟩, .slice none 0 0] 62)) (w.heap.size + 1) #[.int .i64 0, .int .u64 0, .slice none 0 0, .string ⟨#[]⟩, .slice none 0 0] 62 := by
    have := RowAt.new (w.alloc (.cells (prC p).toArray 76)) #[.int .i64 0, .int .u64 0, .slice none 0 0, .string ⟨#[]⟩, .slice none 0 0] 62
    rwa [World.size_alloc] at this
  have X0 : RowAt ((w.alloc (.cells (prC p).toArray 76)).alloc (.cells #[.int .i64 0, .int .u64 0, .slice none 0 0, .string ⟨#[]⟩, .slice none 0 0] 62)) w.heap.size (prC p).toArray 76 := (RowAt.new w _ _).below (below_alloc _ _)
  have hs0 : ((w.alloc (.cells (prC p).toArray 76)).alloc (.cells #[.int .i64 0, .int .u64 0, .slice none 0 0, .string ⟨#[]⟩, .slice none 0 0] 62)).heap.size = w.heap.size + 2 := by simp
  have x0 := X0.cell (i := 0) rfl
  have x1 := X0.cell (i := 1) rfl
  have x2 := X0.cell (i := 2) rfl
  have x3 := X0.cell (i := 3) rfl
  have x4 := X0.cell (i := 4) rfl
  have x5 := X0.cell (i := 5) rfl
  have x6 := X0.cell (i := 6) rfl
  have x7 := X0.cell (i := 7) rfl
  have x8 := X0.cell (i := 8) rfl
  have x9 := X0.cell (i := 9) rfl
  have x10 := X0.cell (i := 10) rfl
  have hcl := prNumI_c 7 (by decide) ((w.alloc (.cells (prC p).toArray 76)).alloc (.cells #[.int .i64 0, .int .u64 0, .slice none 0 0, .string ⟨#[]⟩, .slice none 0 0] 62))
  have HZ0 := Lib.hid Z0
  have HW1 := Lib.hid hW1
  have HS0 := Lib.hid hs0
  have HNB := Lib.hid (show 7 < 18446744073709551616 by have := hp.f; have := hp.s1; have := hp.l; omega)
  have HCL := Lib.hid hcl
  clear hcl Z0 hW1 hs0 X0 hk hp hkf hks hkt hkr hktm hkl
  go_enter Tryz.func75, Tryz.ntmps75
  go_wp2_with fail
  refine HCL.out.mono ?_
  rintro en w1 ⟨rfl, hb1⟩
  have hi8 := itU (fun j => w.heap.size + 1 < j ∧ j < w1.heap.size) w1 7 HNB.out
  replace hi8 : ItR (fun j => w.heap.size + 1 < j ∧ j < w1.heap.size) w1 (uI 7) ⟨1, 7, .slice none 0 0, ⟨#[]⟩, .slice none 0 0⟩ := hi8
  have D3 := below_up HW1.out hb1
  have Z3 := HZ0.out.below hb1
  have hs1 : w.heap.size + 2 ≤ w1.heap.size := by have := HS0.out; have := hb1.size; omega
  have z0 := Z3.cell (i := 0) rfl
  have z1 := Z3.cell (i := 1) rfl
  have z2 := Z3.cell (i := 2) rfl
  have z3 := Z3.cell (i := 3) rfl
  have z4 := Z3.cell (i := 4) rfl
  have f0 := Z3.fz 0
  have f1 := Z3.fz 1
  have f2 := Z3.fz 2
  have f3 := Z3.fz 3
  have f4 := Z3.fz 4
  go_wp2
  obtain ⟨h5, hm⟩ := made_end (w := w) Z3 rfl (by omega) D3 hi8
  have g0 := RowAt.cell h5 (i := 0) rfl
  have g1 := RowAt.cell h5 (i := 1) rfl
  have g2 := RowAt.cell h5 (i := 2) rfl
  have g3 := RowAt.cell h5 (i := 3) rfl
  have g4 := RowAt.cell h5 (i := 4) rfl
  exact bodyPost_ret (v := rwV ⟨1, 7, .slice none 0 0, ⟨#[]⟩, .slice none 0 0⟩) (by simp [results, Tryz.results75, go_sem, g0, g1, g2, g3, g4]) rfl hm
set_option maxHeartbeats 1000000 in
set_option maxRecDepth 100000 in
theorem prPart2_c (p : Prm.Pr) (hp : p.Ok) (hk : Prm.okPr p = true) (w : World) : Calls Tryz.prog 77 #[prV p] w (MadeE (uI p.flags) w) := by
  obtain ⟨hkf, hks, hkt, hkr, hktm, hkl⟩ := Prm.okPr_parts hk
  have hW1 := (below_alloc w (.cells (prC p).toArray 76)).alloc (by simp) (.cells #[.int .i64 0, .int .u64 0, .slice none 0 0, .string ⟨#[]⟩, .slice none 0 0] 62)
  have Z0 : RowAt ((w.alloc (.cells (prC p).toArray 76)).alloc (.cells #[.int .i64 0, .int .u64 0, .slice none 0 0, .string ⟨#[]⟩, .slice none 0 0] 62)) (w.heap.size + 1) #[.int .i64 0, .int .u64 0, .slice none 0 0, .string ⟨#[]⟩, .slice none 0 0] 62 := by
    have := RowAt.new (w.alloc (.cells (prC p).toArray 76)) #[.int .i64 0, .int .u64 0, .slice none 0 0, .string ⟨#[]⟩, .slice none 0 0] 62
    rwa [World.size_alloc] at this
  have X0 : RowAt ((w.alloc (.cells (prC p).toArray 76)).alloc (.cells #[.int .i64 0, .int .u64 0, .slice none 0 0, .string ⟨#[]⟩, .slice none 0 0] 62)) w.heap.size (prC p).toArray 76 := (RowAt.new w _ _).below (below_alloc _ _)
  have hs0 : ((w.alloc (.cells (prC p).toArray 76)).alloc (.cells #[.int .i64 0, .int .u64 0, .slice none 0 0, .string ⟨#[]⟩, .slice none 0 0] 62)).heap.size = w.heap.size + 2 := by simp
  have x0 := X0.cell (i := 0) rfl
  have x1 := X0.cell (i := 1) rfl
  have x2 := X0.cell (i := 2) rfl
  have x3 := X0.cell (i := 3) rfl
  have x4 := X0.cell (i := 4) rfl
  have x5 := X0.cell (i := 5) rfl
  have x6 := X0.cell (i := 6) rfl
  have x7 := X0.cell (i := 7) rfl
  have x8 := X0.cell (i := 8) rfl
  have x9 := X0.cell (i := 9) rfl
  have x10 := X0.cell (i := 10) rfl
  have hcl := prNum32_c p.flags hp.f ((w.alloc (.cells (prC p).toArray 76)).alloc (.cells #[.int .i64 0, .int .u64 0, .slice none 0 0, .string ⟨#[]⟩, .slice none 0 0] 62))
  have HZ0 := Lib.hid Z0
  have HW1 := Lib.hid hW1
  have HS0 := Lib.hid hs0
  have HNB := Lib.hid (show p.flags < 18446744073709551616 by have := hp.f; have := hp.s1; have := hp.l; omega)
  have HCL := Lib.hid hcl
  clear hcl Z0 hW1 hs0 X0 hk hp hkf hks hkt hkr hktm hkl
  go_enter Tryz.func77, Tryz.ntmps77
  go_wp2_with fail
  refine HCL.out.mono ?_
  rintro en w1 ⟨rfl, hb1⟩
  have hi8 := itU (fun j => w.heap.size + 1 < j ∧ j < w1.heap.size) w1 p.flags HNB.out
  have D3 := below_up HW1.out hb1
  have Z3 := HZ0.out.below hb1
  have hs1 : w.heap.size + 2 ≤ w1.heap.size := by have := HS0.out; have := hb1.size; omega
  have z0 := Z3.cell (i := 0) rfl
  have z1 := Z3.cell (i := 1) rfl
  have z2 := Z3.cell (i := 2) rfl
  have z3 := Z3.cell (i := 3) rfl
  have z4 := Z3.cell (i := 4) rfl
  have f0 := Z3.fz 0
  have f1 := Z3.fz 1
  have f2 := Z3.fz 2
  have f3 := Z3.fz 3
  have f4 := Z3.fz 4
  go_wp2
  obtain ⟨h5, hm⟩ := made_end (w := w) Z3 rfl (by omega) D3 hi8
  have g0 := RowAt.cell h5 (i := 0) rfl
  have g1 := RowAt.cell h5 (i := 1) rfl
  have g2 := RowAt.cell h5 (i := 2) rfl
  have g3 := RowAt.cell h5 (i := 3) rfl
  have g4 := RowAt.cell h5 (i := 4) rfl
  exact bodyPost_ret (v := rwV (rU p.flags)) (by simp [results, Tryz.results77, go_sem, g0, g1, g2, g3, g4]) rfl hm
set_option maxHeartbeats 1000000 in
set_option maxRecDepth 100000 in
theorem prPart3_c (p : Prm.Pr) (hp : p.Ok) (hk : Prm.okPr p = true) (w : World) : Calls Tryz.prog 79 #[prV p] w (MadeE (uI p.sum.toNat) w) := by
  obtain ⟨hkf, hks, hkt, hkr, hktm, hkl⟩ := Prm.okPr_parts hk
  obtain ⟨s, hs⟩ : ∃ s : Nat, (s : Int) = p.sum := ⟨p.sum.toNat, by omega⟩
  rw [show p.sum.toNat = s by omega]
  have hW1 := (below_alloc w (.cells (prC p).toArray 76)).alloc (by simp) (.cells #[.int .i64 0, .int .u64 0, .slice none 0 0, .string ⟨#[]⟩, .slice none 0 0] 62)
  have Z0 : RowAt ((w.alloc (.cells (prC p).toArray 76)).alloc (.cells #[.int .i64 0, .int .u64 0, .slice none 0 0, .string ⟨#[]⟩, .slice none 0 0] 62)) (w.heap.size + 1) #[.int .i64 0, .int .u64 0, .slice none 0 0, .string ⟨#[]⟩, .slice none 0 0] 62 := by
    have := RowAt.new (w.alloc (.cells (prC p).toArray 76)) #[.int .i64 0, .int .u64 0, .slice none 0 0, .string ⟨#[]⟩, .slice none 0 0] 62
    rwa [World.size_alloc] at this
  have X0 : RowAt ((w.alloc (.cells (prC p).toArray 76)).alloc (.cells #[.int .i64 0, .int .u64 0, .slice none 0 0, .string ⟨#[]⟩, .slice none 0 0] 62)) w.heap.size (prC p).toArray 76 := (RowAt.new w _ _).below (below_alloc _ _)
  have hs0 : ((w.alloc (.cells (prC p).toArray 76)).alloc (.cells #[.int .i64 0, .int .u64 0, .slice none 0 0, .string ⟨#[]⟩, .slice none 0 0] 62)).heap.size = w.heap.size + 2 := by simp
  have x1 := X0.cell (i := 1) (v := .int .i64 (s : Int)) (by rw [hs]; rfl)
  have hcl := prNumK_c s (by have := hp.s1; omega) ((w.alloc (.cells (prC p).toArray 76)).alloc (.cells #[.int .i64 0, .int .u64 0, .slice none 0 0, .string ⟨#[]⟩, .slice none 0 0] 62))
  have HZ0 := Lib.hid Z0
  have HW1 := Lib.hid hW1
  have HS0 := Lib.hid hs0
  have HNB := Lib.hid (show s < 18446744073709551616 by have := hp.f; have := hp.s1; have := hp.l; omega)
  have HCL := Lib.hid hcl
  clear hs hcl Z0 hW1 hs0 X0 hk hp hkf hks hkt hkr hktm hkl
  go_enter Tryz.func79, Tryz.ntmps79
  go_wp2_with fail
  refine HCL.out.mono ?_
  rintro en w1 ⟨rfl, hb1⟩
  have hi8 := itU (fun j => w.heap.size + 1 < j ∧ j < w1.heap.size) w1 s HNB.out
  have D3 := below_up HW1.out hb1
  have Z3 := HZ0.out.below hb1
  have hs1 : w.heap.size + 2 ≤ w1.heap.size := by have := HS0.out; have := hb1.size; omega
  have z0 := Z3.cell (i := 0) rfl
  have z1 := Z3.cell (i := 1) rfl
  have z2 := Z3.cell (i := 2) rfl
  have z3 := Z3.cell (i := 3) rfl
  have z4 := Z3.cell (i := 4) rfl
  have f0 := Z3.fz 0
  have f1 := Z3.fz 1
  have f2 := Z3.fz 2
  have f3 := Z3.fz 3
  have f4 := Z3.fz 4
  go_wp2
  obtain ⟨h5, hm⟩ := made_end (w := w) Z3 rfl (by omega) D3 hi8
  have g0 := RowAt.cell h5 (i := 0) rfl
  have g1 := RowAt.cell h5 (i := 1) rfl
  have g2 := RowAt.cell h5 (i := 2) rfl
  have g3 := RowAt.cell h5 (i := 3) rfl
  have g4 := RowAt.cell h5 (i := 4) rfl
  exact bodyPost_ret (v := rwV (rU s)) (by simp [results, Tryz.results79, go_sem, g0, g1, g2, g3, g4]) rfl hm
set_option maxHeartbeats 1000000 in
set_option maxRecDepth 100000 in
theorem prPart4_c (p : Prm.Pr) (hp : p.Ok) (hk : Prm.okPr p = true) (w : World) : Calls Tryz.prog 81 #[prV p] w (MadeE (epI p.toN p.toS) w) := by
  obtain ⟨hkf, hks, hkt, hkr, hktm, hkl⟩ := Prm.okPr_parts hk
  have hW1 := (below_alloc w (.cells (prC p).toArray 76)).alloc (by simp) (.cells #[.int .i64 0, .int .u64 0, .slice none 0 0, .string ⟨#[]⟩, .slice none 0 0] 62)
  have Z0 : RowAt ((w.alloc (.cells (prC p).toArray 76)).alloc (.cells #[.int .i64 0, .int .u64 0, .slice none 0 0, .string ⟨#[]⟩, .slice none 0 0] 62)) (w.heap.size + 1) #[.int .i64 0, .int .u64 0, .slice none 0 0, .string ⟨#[]⟩, .slice none 0 0] 62 := by
    have := RowAt.new (w.alloc (.cells (prC p).toArray 76)) #[.int .i64 0, .int .u64 0, .slice none 0 0, .string ⟨#[]⟩, .slice none 0 0] 62
    rwa [World.size_alloc] at this
  have X0 : RowAt ((w.alloc (.cells (prC p).toArray 76)).alloc (.cells #[.int .i64 0, .int .u64 0, .slice none 0 0, .string ⟨#[]⟩, .slice none 0 0] 62)) w.heap.size (prC p).toArray 76 := (RowAt.new w _ _).below (below_alloc _ _)
  have hs0 : ((w.alloc (.cells (prC p).toArray 76)).alloc (.cells #[.int .i64 0, .int .u64 0, .slice none 0 0, .string ⟨#[]⟩, .slice none 0 0] 62)).heap.size = w.heap.size + 2 := by simp
  have x0 := X0.cell (i := 0) rfl
  have x1 := X0.cell (i := 1) rfl
  have x2 := X0.cell (i := 2) rfl
  have x3 := X0.cell (i := 3) rfl
  have x4 := X0.cell (i := 4) rfl
  have x5 := X0.cell (i := 5) rfl
  have x6 := X0.cell (i := 6) rfl
  have x7 := X0.cell (i := 7) rfl
  have x8 := X0.cell (i := 8) rfl
  have x9 := X0.cell (i := 9) rfl
  have x10 := X0.cell (i := 10) rfl
  have hcl := prPoint_c p.toN p.toS hp.tn hp.ts (Prm.chkP_pos hkt.1) ((w.alloc (.cells (prC p).toArray 76)).alloc (.cells #[.int .i64 0, .int .u64 0, .slice none 0 0, .string ⟨#[]⟩, .slice none 0 0] 62))
  have HZ0 := Lib.hid Z0
  have HW1 := Lib.hid hW1
  have HS0 := Lib.hid hs0
  have HCL := Lib.hid hcl
  clear hcl Z0 hW1 hs0 X0 hk hp hkf hks hkt hkr hktm hkl
  go_enter Tryz.func81, Tryz.ntmps81
  go_wp2_with fail
  refine HCL.out.mono ?_
  rintro en w1 ⟨hb1, r8, rfl, hi8⟩
  obtain ⟨k8, n8, ba8, bn8, bc8, s8, la8, ln8, lc8, rfl⟩ := hi8.shape
  replace hi8 := hi8.mono (S' := fun j => w.heap.size + 1 < j ∧ j < w1.heap.size) (fun j e => ⟨by have := HS0.out; omega, e.2⟩)
  have D3 := below_up HW1.out hb1
  have Z3 := HZ0.out.below hb1
  have hs1 : w.heap.size + 2 ≤ w1.heap.size := by have := HS0.out; have := hb1.size; omega
  have z0 := Z3.cell (i := 0) rfl
  have z1 := Z3.cell (i := 1) rfl
  have z2 := Z3.cell (i := 2) rfl
  have z3 := Z3.cell (i := 3) rfl
  have z4 := Z3.cell (i := 4) rfl
  have f0 := Z3.fz 0
  have f1 := Z3.fz 1
  have f2 := Z3.fz 2
  have f3 := Z3.fz 3
  have f4 := Z3.fz 4
  go_wp2
  obtain ⟨h5, hm⟩ := made_end (w := w) Z3 rfl (by omega) D3 hi8
  have g0 := RowAt.cell h5 (i := 0) rfl
  have g1 := RowAt.cell h5 (i := 1) rfl
  have g2 := RowAt.cell h5 (i := 2) rfl
  have g3 := RowAt.cell h5 (i := 3) rfl
  have g4 := RowAt.cell h5 (i := 4) rfl
  exact bodyPost_ret (v := rwV ⟨k8, n8, .slice ba8 bn8 bc8, s8, .slice la8 ln8 lc8⟩) (by simp [results, Tryz.results81, go_sem, g0, g1, g2, g3, g4]) rfl hm
set_option maxHeartbeats 1000000 in
set_option maxRecDepth 100000 in
theorem prPart5_c (p : Prm.Pr) (hp : p.Ok) (hk : Prm.okPr p = true) (w : World) : Calls Tryz.prog 83 #[prV p] w (MadeE (epI p.srN p.srS) w) := by
  obtain ⟨hkf, hks, hkt, hkr, hktm, hkl⟩ := Prm.okPr_parts hk
  have hW1 := (below_alloc w (.cells (prC p).toArray 76)).alloc (by simp) (.cells #[.int .i64 0, .int .u64 0, .slice none 0 0, .string ⟨#[]⟩, .slice none 0 0] 62)
  have Z0 : RowAt ((w.alloc (.cells (prC p).toArray 76)).alloc (.cells #[.int .i64 0, .int .u64 0, .slice none 0 0, .string ⟨#[]⟩, .slice none 0 0] 62)) (w.heap.size + 1) #[.int .i64 0, .int .u64 0, .slice none 0 0, .string ⟨#[]⟩, .slice none 0 0] 62 := by
    have := RowAt.new (w.alloc (.cells (prC p).toArray 76)) #[.int .i64 0, .int .u64 0, .slice none 0 0, .string ⟨#[]⟩, .slice none 0 0] 62
    rwa [World.size_alloc] at this
  have X0 : RowAt ((w.alloc (.cells (prC p).toArray 76)).alloc (.cells #[.int .i64 0, .int .u64 0, .slice none 0 0, .string ⟨#[]⟩, .slice none 0 0] 62)) w.heap.size (prC p).toArray 76 := (RowAt.new w _ _).below (below_alloc _ _)
  have hs0 : ((w.alloc (.cells (prC p).toArray 76)).alloc (.cells #[.int .i64 0, .int .u64 0, .slice none 0 0, .string ⟨#[]⟩, .slice none 0 0] 62)).heap.size = w.heap.size + 2 := by simp
  have x0 := X0.cell (i := 0) rfl
  have x1 := X0.cell (i := 1) rfl
  have x2 := X0.cell (i := 2) rfl
  have x3 := X0.cell (i := 3) rfl
  have x4 := X0.cell (i := 4) rfl
  have x5 := X0.cell (i := 5) rfl
  have x6 := X0.cell (i := 6) rfl
  have x7 := X0.cell (i := 7) rfl
  have x8 := X0.cell (i := 8) rfl
  have x9 := X0.cell (i := 9) rfl
  have x10 := X0.cell (i := 10) rfl
  have hcl := prPoint_c p.srN p.srS hp.sn hp.ss (Prm.chkP_pos hkt.2) ((w.alloc (.cells (prC p).toArray 76)).alloc (.cells #[.int .i64 0, .int .u64 0, .slice none 0 0, .string ⟨#[]⟩, .slice none 0 0] 62))
  have HZ0 := Lib.hid Z0
  have HW1 := Lib.hid hW1
  have HS0 := Lib.hid hs0
  have HCL := Lib.hid hcl
  clear hcl Z0 hW1 hs0 X0 hk hp hkf hks hkt hkr hktm hkl
  go_enter Tryz.func83, Tryz.ntmps83
  go_wp2_with fail
  refine HCL.out.mono ?_
  rintro en w1 ⟨hb1, r8, rfl, hi8⟩
  obtain ⟨k8, n8, ba8, bn8, bc8, s8, la8, ln8, lc8, rfl⟩ := hi8.shape
  replace hi8 := hi8.mono (S' := fun j => w.heap.size + 1 < j ∧ j < w1.heap.size) (fun j e => ⟨by have := HS0.out; omega, e.2⟩)
  have D3 := below_up HW1.out hb1
  have Z3 := HZ0.out.below hb1
  have hs1 : w.heap.size + 2 ≤ w1.heap.size := by have := HS0.out; have := hb1.size; omega
  have z0 := Z3.cell (i := 0) rfl
  have z1 := Z3.cell (i := 1) rfl
  have z2 := Z3.cell (i := 2) rfl
  have z3 := Z3.cell (i := 3) rfl
  have z4 := Z3.cell (i := 4) rfl
  have f0 := Z3.fz 0
  have f1 := Z3.fz 1
  have f2 := Z3.fz 2
  have f3 := Z3.fz 3
  have f4 := Z3.fz 4
  go_wp2
  obtain ⟨h5, hm⟩ := made_end (w := w) Z3 rfl (by omega) D3 hi8
  have g0 := RowAt.cell h5 (i := 0) rfl
  have g1 := RowAt.cell h5 (i := 1) rfl
  have g2 := RowAt.cell h5 (i := 2) rfl
  have g3 := RowAt.cell h5 (i := 3) rfl
  have g4 := RowAt.cell h5 (i := 4) rfl
  exact bodyPost_ret (v := rwV ⟨k8, n8, .slice ba8 bn8 bc8, s8, .slice la8 ln8 lc8⟩) (by simp [results, Tryz.results83, go_sem, g0, g1, g2, g3, g4]) rfl hm
set_option maxHeartbeats 1000000 in
set_option maxRecDepth 100000 in
theorem prPart6_c (p : Prm.Pr) (hp : p.Ok) (hk : Prm.okPr p = true) (w : World) : Calls Tryz.prog 84 #[prV p] w (MadeE (epI p.rpN p.rpS) w) := by
  obtain ⟨hkf, hks, hkt, hkr, hktm, hkl⟩ := Prm.okPr_parts hk
  have hW1 := (below_alloc w (.cells (prC p).toArray 76)).alloc (by simp) (.cells #[.int .i64 0, .int .u64 0, .slice none 0 0, .string ⟨#[]⟩, .slice none 0 0] 62)
  have Z0 : RowAt ((w.alloc (.cells (prC p).toArray 76)).alloc (.cells #[.int .i64 0, .int .u64 0, .slice none 0 0, .string ⟨#[]⟩, .slice none 0 0] 62)) (w.heap.size + 1) #[.int .i64 0, .int .u64 0, .slice none 0 0, .string ⟨#[]⟩, .slice none 0 0] 62 := by
    have := RowAt.new (w.alloc (.cells (prC p).toArray 76)) #[.int .i64 0, .int .u64 0, .slice none 0 0, .string ⟨#[]⟩, .slice none 0 0] 62
    rwa [World.size_alloc] at this
  have X0 : RowAt ((w.alloc (.cells (prC p).toArray 76)).alloc (.cells #[.int .i64 0, .int .u64 0, .slice none 0 0, .string ⟨#[]⟩, .slice none 0 0] 62)) w.heap.size (prC p).toArray 76 := (RowAt.new w _ _).below (below_alloc _ _)
  have hs0 : ((w.alloc (.cells (prC p).toArray 76)).alloc (.cells #[.int .i64 0, .int .u64 0, .slice none 0 0, .string ⟨#[]⟩, .slice none 0 0] 62)).heap.size = w.heap.size + 2 := by simp
  have x0 := X0.cell (i := 0) rfl
  have x1 := X0.cell (i := 1) rfl
  have x2 := X0.cell (i := 2) rfl
  have x3 := X0.cell (i := 3) rfl
  have x4 := X0.cell (i := 4) rfl
  have x5 := X0.cell (i := 5) rfl
  have x6 := X0.cell (i := 6) rfl
  have x7 := X0.cell (i := 7) rfl
  have x8 := X0.cell (i := 8) rfl
  have x9 := X0.cell (i := 9) rfl
  have x10 := X0.cell (i := 10) rfl
  have hcl := prPoint_c p.rpN p.rpS hp.rn hp.rs hkr ((w.alloc (.cells (prC p).toArray 76)).alloc (.cells #[.int .i64 0, .int .u64 0, .slice none 0 0, .string ⟨#[]⟩, .slice none 0 0] 62))
  have HZ0 := Lib.hid Z0
  have HW1 := Lib.hid hW1
  have HS0 := Lib.hid hs0
  have HCL := Lib.hid hcl
  clear hcl Z0 hW1 hs0 X0 hk hp hkf hks hkt hkr hktm hkl
  go_enter Tryz.func84, Tryz.ntmps84
  go_wp2_with fail
  refine HCL.out.mono ?_
  rintro en w1 ⟨hb1, r8, rfl, hi8⟩
  obtain ⟨k8, n8, ba8, bn8, bc8, s8, la8, ln8, lc8, rfl⟩ := hi8.shape
  replace hi8 := hi8.mono (S' := fun j => w.heap.size + 1 < j ∧ j < w1.heap.size) (fun j e => ⟨by have := HS0.out; omega, e.2⟩)
  have D3 := below_up HW1.out hb1
  have Z3 := HZ0.out.below hb1
  have hs1 : w.heap.size + 2 ≤ w1.heap.size := by have := HS0.out; have := hb1.size; omega
  have z0 := Z3.cell (i := 0) rfl
  have z1 := Z3.cell (i := 1) rfl
  have z2 := Z3.cell (i := 2) rfl
  have z3 := Z3.cell (i := 3) rfl
  have z4 := Z3.cell (i := 4) rfl
  have f0 := Z3.fz 0
  have f1 := Z3.fz 1
  have f2 := Z3.fz 2
  have f3 := Z3.fz 3
  have f4 := Z3.fz 4
  go_wp2
  obtain ⟨h5, hm⟩ := made_end (w := w) Z3 rfl (by omega) D3 hi8
  have g0 := RowAt.cell h5 (i := 0) rfl
  have g1 := RowAt.cell h5 (i := 1) rfl
  have g2 := RowAt.cell h5 (i := 2) rfl
  have g3 := RowAt.cell h5 (i := 3) rfl
  have g4 := RowAt.cell h5 (i := 4) rfl
  exact bodyPost_ret (v := rwV ⟨k8, n8, .slice ba8 bn8 bc8, s8, .slice la8 ln8 lc8⟩) (by simp [results, Tryz.results84, go_sem, g0, g1, g2, g3, g4]) rfl hm
set_option maxHeartbeats 1000000 in
set_option maxRecDepth 100000 in
theorem prPart8_c (p : Prm.Pr) (hp : p.Ok) (hk : Prm.okPr p = true) (w : World) : Calls Tryz.prog 88 #[prV p] w (MadeE (uI p.life) w) := by
  obtain ⟨hkf, hks, hkt, hkr, hktm, hkl⟩ := Prm.okPr_parts hk
  have hW1 := (below_alloc w (.cells (prC p).toArray 76)).alloc (by simp) (.cells #[.int .i64 0, .int .u64 0, .slice none 0 0, .string ⟨#[]⟩, .slice none 0 0] 62)
  have Z0 : RowAt ((w.alloc (.cells (prC p).toArray 76)).alloc (.cells #[.int .i64 0, .int .u64 0, .slice none 0 0, .string ⟨#[]⟩, .slice none 0 0] 62)) (w.heap.size + 1) #[.int .i64 0, .int .u64 0, .slice none 0 0, .string ⟨#[]⟩, .slice none 0 0] 62 := by
    have := RowAt.new (w.alloc (.cells (prC p).toArray 76)) #[.int .i64 0, .int .u64 0, .slice none 0 0, .string ⟨#[]⟩, .slice none 0 0] 62
    rwa [World.size_alloc] at this
  have X0 : RowAt ((w.alloc (.cells (prC p).toArray 76)).alloc (.cells #[.int .i64 0, .int .u64 0, .slice none 0 0, .string ⟨#[]⟩, .slice none 0 0] 62)) w.heap.size (prC p).toArray 76 := (RowAt.new w _ _).below (below_alloc _ _)
  have hs0 : ((w.alloc (.cells (prC p).toArray 76)).alloc (.cells #[.int .i64 0, .int .u64 0, .slice none 0 0, .string ⟨#[]⟩, .slice none 0 0] 62)).heap.size = w.heap.size + 2 := by simp
  have x0 := X0.cell (i := 0) rfl
  have x1 := X0.cell (i := 1) rfl
  have x2 := X0.cell (i := 2) rfl
  have x3 := X0.cell (i := 3) rfl
  have x4 := X0.cell (i := 4) rfl
  have x5 := X0.cell (i := 5) rfl
  have x6 := X0.cell (i := 6) rfl
  have x7 := X0.cell (i := 7) rfl
  have x8 := X0.cell (i := 8) rfl
  have x9 := X0.cell (i := 9) rfl
  have x10 := X0.cell (i := 10) rfl
  have hcl := prNum64_c p.life hp.l ((w.alloc (.cells (prC p).toArray 76)).alloc (.cells #[.int .i64 0, .int .u64 0, .slice none 0 0, .string ⟨#[]⟩, .slice none 0 0] 62))
  have HZ0 := Lib.hid Z0
  have HW1 := Lib.hid hW1
  have HS0 := Lib.hid hs0
  have HNB := Lib.hid (show p.life < 18446744073709551616 by have := hp.f; have := hp.s1; have := hp.l; omega)
  have HCL := Lib.hid hcl
  clear hcl Z0 hW1 hs0 X0 hk hp hkf hks hkt hkr hktm hkl
  go_enter Tryz.func88, Tryz.ntmps88
  go_wp2_with fail
  refine HCL.out.mono ?_
  rintro en w1 ⟨rfl, hb1⟩
  have hi8 := itU (fun j => w.heap.size + 1 < j ∧ j < w1.heap.size) w1 p.life HNB.out
  have D3 := below_up HW1.out hb1
  have Z3 := HZ0.out.below hb1
  have hs1 : w.heap.size + 2 ≤ w1.heap.size := by have := HS0.out; have := hb1.size; omega
  have z0 := Z3.cell (i := 0) rfl
  have z1 := Z3.cell (i := 1) rfl
  have z2 := Z3.cell (i := 2) rfl
  have z3 := Z3.cell (i := 3) rfl
  have z4 := Z3.cell (i := 4) rfl
  have f0 := Z3.fz 0
  have f1 := Z3.fz 1
  have f2 := Z3.fz 2
  have f3 := Z3.fz 3
  have f4 := Z3.fz 4
  go_wp2
  obtain ⟨h5, hm⟩ := made_end (w := w) Z3 rfl (by omega) D3 hi8
  have g0 := RowAt.cell h5 (i := 0) rfl
  have g1 := RowAt.cell h5 (i := 1) rfl
  have g2 := RowAt.cell h5 (i := 2) rfl
  have g3 := RowAt.cell h5 (i := 3) rfl
  have g4 := RowAt.cell h5 (i := 4) rfl
  exact bodyPost_ret (v := rwV (rU p.life)) (by simp [results, Tryz.results88, go_sem, g0, g1, g2, g3, g4]) rfl hm
set_option maxHeartbeats 1000000 in
set_option maxRecDepth 100000 in
theorem prPart7_c (p : Prm.Pr) (hp : p.Ok) (w : World) : Calls Tryz.prog 85 #[prV p] w (MadeE (lI [uI p.time, uI p.seq]) w) := by
  obtain ⟨iI, hiI, hzI, hsI, _⟩ := infoIt
  have hW1 := (below_alloc w (.cells (prC p).toArray 76)).alloc (by simp) (.cells #[.int .i64 0, .int .u64 0, .slice none 0 0, .string ⟨#[]⟩, .slice none 0 0] 62)
  have Z0 : RowAt ((w.alloc (.cells (prC p).toArray 76)).alloc (.cells #[.int .i64 0, .int .u64 0, .slice none 0 0, .string ⟨#[]⟩, .slice none 0 0] 62)) (w.heap.size + 1) #[.int .i64 0, .int .u64 0, .slice none 0 0, .string ⟨#[]⟩, .slice none 0 0] 62 := by
    have := RowAt.new (w.alloc (.cells (prC p).toArray 76)) #[.int .i64 0, .int .u64 0, .slice none 0 0, .string ⟨#[]⟩, .slice none 0 0] 62
    rwa [World.size_alloc] at this
  have X0 : RowAt ((w.alloc (.cells (prC p).toArray 76)).alloc (.cells #[.int .i64 0, .int .u64 0, .slice none 0 0, .string ⟨#[]⟩, .slice none 0 0] 62)) w.heap.size (prC p).toArray 76 := (RowAt.new w _ _).below (below_alloc _ _)
  have HZ0 := Lib.hid Z0
  have HW1 := Lib.hid hW1
  clear hW1 Z0
  go_enter Tryz.func85, Tryz.ntmps85
  go_wp2
  refine wp_region_pt (fun k => k = w.heap.size + 1) (.q 0 (.q 1 (.q 2 (.q 4 (.q 5 (.q 6 (.c 3 (.c 7 (.c 8 (.c 9 (.c 10 .done))))))))))) (by kernel_rfl) (by kernel_rfl) (by kernel_rfl) (by decide) (fun _ _ d _ _ h => by cases d <;> exact h) (fun Wd hBd => ?_)
  try simp only [Act.put, List.getElem_toArray, List.getElem_cons_zero, List.getElem_cons_succ, List.setIfInBounds_toArray, List.set_cons_zero, List.set_cons_succ]
  have B0 := below_up HW1.out hBd
  have Zd := HZ0.out.below hBd
  have K0 := X0.below hBd
  have k1 := RowAt.cell K0 (i := 8) (v := .int .u64 p.time) rfl
  have k2 := RowAt.cell K0 (i := 9) (v := .int .u32 p.seq) rfl
  have hs0 : w.heap.size + 2 ≤ Wd.heap.size := RowAt.lt Zd
  iterate 2
    refine pt_q (v := ?_) rfl (by rfl) ?_ ?_
    rotate_left
    · intro w' hBw'
      first | (go_simp; done) | (go_simp; with_reducible rfl)
    try simp only [Act.put, List.getElem_toArray, List.getElem_cons_zero, List.getElem_cons_succ, List.setIfInBounds_toArray, List.set_cons_zero, List.set_cons_succ]
  refine pt_q (v := ?_) rfl (by rfl) ?_ ?_
  rotate_left
  · intro w' hBw'
    have qL := hBw'.cell k1 (by omega)
    first | (go_simp; done) | (go_simp; with_reducible rfl)
  iterate 2
    try simp only [Act.put, List.getElem_toArray, List.getElem_cons_zero, List.getElem_cons_succ, List.setIfInBounds_toArray, List.set_cons_zero, List.set_cons_succ]
    refine pt_q (v := ?_) rfl (by rfl) ?_ ?_
    rotate_left
    · intro w' hBw'
      first | (go_simp; done) | (go_simp; with_reducible rfl)
  try simp only [Act.put, List.getElem_toArray, List.getElem_cons_zero, List.getElem_cons_succ, List.setIfInBounds_toArray, List.set_cons_zero, List.set_cons_succ]
  refine pt_q (v := ?_) rfl (by rfl) ?_ ?_
  rotate_left
  · intro w' hBw'
    have qL := hBw'.cell k2 (by omega)
    first | (go_simp; done) | (go_simp; with_reducible rfl)
  try simp only [Act.put, List.getElem_toArray, List.getElem_cons_zero, List.getElem_cons_succ, List.setIfInBounds_toArray, List.set_cons_zero, List.set_cons_succ]
  refine pt_c ?_
  refine pt_step rfl (by rfl) (fun K hK => ?_)
  go_simp
  refine (prNum64_c p.time hp.t _).mono ?_
  rintro en w1 ⟨rfl, hb1⟩
  refine hK.out _ _ (But.of_below hb1) ?_
  clear hK K
  try simp only [Act.put, List.getElem_toArray, List.getElem_cons_zero, List.getElem_cons_succ, List.setIfInBounds_toArray, List.set_cons_zero, List.set_cons_succ]
  refine pt_c ?_
  refine pt_step rfl (by rfl) (fun K hK => ?_)
  go_simp
  refine (prNum32_c p.seq hp.q _).mono ?_
  rintro en w2 ⟨rfl, hb2⟩
  refine hK.out _ _ (But.of_below hb2) ?_
  clear hK K
  try simp only [Act.put, List.getElem_toArray, List.getElem_cons_zero, List.getElem_cons_succ, List.setIfInBounds_toArray, List.set_cons_zero, List.set_cons_succ]
  refine pt_c ?_
  refine pt_buildSlice rfl (by rfl) 59 62 2 #[(0, .tmp 6), (1, .tmp 10)] rfl ([rU p.time, rU p.seq].flatMap rwC).toArray iI _ Tryz.underlying59 hiI hzI (by rw [hsI]; decide) (by rw [hsI]; decide) [(0, rwV (rU p.time)), (1, rwV (rU p.seq))] rfl (by rw [hsI]; exact filled2 _ _) ?_
  try simp only [Act.put, List.getElem_toArray, List.getElem_cons_zero, List.getElem_cons_succ, List.setIfInBounds_toArray, List.set_cons_zero, List.set_cons_succ]
  have I4 := RowAt.new w2 ([rU p.time, rU p.seq].flatMap rwC).toArray 62
  have hq4 := below_alloc w2 (.cells ([rU p.time, rU p.seq].flatMap rwC).toArray 62)
  obtain ⟨W4, hW4⟩ : ∃ x, w2.alloc (.cells ([rU p.time, rU p.seq].flatMap rwC).toArray 62) = x := ⟨_, rfl⟩
  rw [hW4] at I4 hq4 ⊢
  refine pt_c ?_
  refine pt_step rfl (by rfl) (fun K hK => ?_)
  go_simp
  refine (prList_c _ _ _ _).mono ?_
  rintro en w6 ⟨rfl, hb6⟩
  refine hK.out _ _ (But.of_below hb6) ?_
  clear hK K
  try simp only [Act.put, List.getElem_toArray, List.getElem_cons_zero, List.getElem_cons_succ, List.setIfInBounds_toArray, List.set_cons_zero, List.set_cons_succ]
  have h18 := below_up hb1 (below_up hb2 (below_up hq4 hb6))
  have Z8 := Zd.below h18
  have D8 := below_up B0 h18
  have I8 := RowAt.below I4 hb6
  have hs2 : Wd.heap.size ≤ w2.heap.size := (below_up hb1 hb2).size
  refine pt_c ?_
  refine pt_put_row rfl (by rfl) 62 _ _ rfl (w.heap.size + 1) (rwC (rL (.slice (some ⟨w2.heap.size, 0, none⟩) 2 2))) rfl rfl Z8 rfl (by kernel_rfl) rfl rfl ?_
  try simp only [Act.put, List.getElem_toArray, List.getElem_cons_zero, List.getElem_cons_succ, List.setIfInBounds_toArray, List.set_cons_zero, List.set_cons_succ]
  intro w9 R9 hb9
  have D9 := D8.trans (hb9.below (fun k e => by omega) D8.size)
  have I9 := (hb9.same _ (RowAt.lt I8) (by omega)).trans I8
  refine pt_done ?_
  go_wp2
  have g0 := RowAt.cell R9 (i := 0) rfl
  have g1 := RowAt.cell R9 (i := 1) rfl
  have g2 := RowAt.cell R9 (i := 2) rfl
  have g3 := RowAt.cell R9 (i := 3) rfl
  have g4 := RowAt.cell R9 (i := 4) rfl
  refine bodyPost_ret (v := rwV (rL (.slice (some ⟨w2.heap.size, 0, none⟩) 2 2))) (by simp [results, Tryz.results85, go_sem, g0, g1, g2, g3, g4]) rfl ?_
  exact ⟨D9, _, rfl, itL (its2 (itU _ _ p.time (by have := hp.t; omega)) (itU _ _ p.seq (by have := hp.q; omega))) I9 ⟨by omega, RowAt.lt I9⟩ (by show 2 ≤ 1000; decide)⟩
end Go.Proofs.YtpkonagjnfphkaaGreatDoor

namespace Go.Proofs.YtpkonagjnfphkaaGreatDoor
open Go.RowKit Trc Cb
set_option linter.unusedSimpArgs false
set_option linter.unusedVariables false
set_option maxHeartbeats 1000000 in
set_option maxRecDepth 100000 in
theorem prWritten_c (S : Nat → Prop) (x : It) (r : Rw) (w : World) (hr : ItR S w x r) (hcx : cnt x ≤ 1000000) (hkw : kwB x) (hT : Tabs w) (hSk : ∀ k, S k → k < w.heap.size) (hc : chk x = 0) : Calls Tryz.prog 89 #[rwV r] w (Byt x w) := by
  obtain ⟨k1, n1, ba1, bn1, bc1, s1, la1, ln1, lc1, rfl⟩ := hr.shape
  have hB0 := below_alloc w (.cells (rwC ⟨k1, n1, .slice ba1 bn1 bc1, s1, .slice la1 ln1 lc1⟩).toArray 62)
  have X0 := RowAt.new w (rwC ⟨k1, n1, .slice ba1 bn1 bc1, s1, .slice la1 ln1 lc1⟩).toArray 62
  have hcl := encode_c S x ⟨k1, n1, .slice ba1 bn1 bc1, s1, .slice la1 ln1 lc1⟩ _ (hr.up hB0) hcx hkw (hT.up hB0) (fun k hk => by have := hSk k hk; simp; omega)
  unfold EncE at hcl
  rw [hc] at hcl
  have HCL := Lib.hid hcl
  have x0 := X0.cell (i := 0) rfl
  have x1 := X0.cell (i := 1) rfl
  have x2 := X0.cell (i := 2) rfl
  have x3 := X0.cell (i := 3) rfl
  have x4 := X0.cell (i := 4) rfl
  clear hcl hr hcx hkw hT hSk X0 hc
  go_enter Tryz.func89, Tryz.ntmps89
  go_wp2_with (first
    | (go_at_call 114; refine HCL.out.mono ?_; rintro en w1 ⟨hb1, v1, rfl, ho1, _⟩; have HO := Lib.hid (ho1 rfl); clear ho1)
    | (go_at_call 42; with_reducible refine (prMust_yes _ _).mono ?_; rintro en wn ⟨rfl, rfl⟩))
  go_ret
  exact ⟨_, rfl, own_down HO.out (by simp), below_up hB0 hb1⟩
theorem one_shp {rows : List Rw} (h : ∀ r ∈ rows, Shp r) : ∀ u ∈ rows.flatMap rwC, u.oneCell' = true := by
  intro u hu
  obtain ⟨r, hr, hu⟩ := List.mem_flatMap.1 hu
  obtain ⟨k1, n1, ba1, bn1, bc1, s1, la1, ln1, lc1, rfl⟩ := h r hr
  exact one_rwS _ _ _ _ _ _ _ _ _ u hu
set_option maxHeartbeats 1000000 in
/-- slices.Clone of items. -/
theorem prClone_c (rows : List Rw) (hsh : ∀ r ∈ rows, Shp r) (v : Value) (n : Nat) (w : World) (hv : Sl w 5 v n (rows.flatMap rwC)) (hn : n ≤ 1000000) :
    Calls Tryz.prog 91 #[v] w fun e w' => ∃ v', e = .returned v' ∧ w'.ownsRow w.heap.size 62 5 v' n (rows.flatMap rwC) ∧ Below w.heap.size w w' := by
  obtain ⟨a, c, rfl⟩ := hv.len
  have he := fun (w : World) (a : Option Addr) (n c : Nat) => Lib.run_eql_slice_nil (P := Tryz.prog) w 59 62 a n c 0 0 Tryz.underlying59
  have h1 := one_shp hsh
  cases a with
  | none =>
    have h0 : n = 0 ∧ rows.flatMap rwC = [] := by
      obtain ⟨hl, ⟨a, c, h1, rfl⟩ | ⟨b, off, cap, h1, _⟩⟩ := hv
      · exact ⟨rfl, List.eq_nil_of_length_eq_zero (by omega)⟩
      · simp at h1
    obtain ⟨rfl, h0⟩ := h0
    rw [h0]
    clear h1 hv h0 hsh
    go_enter Tryz.func91, Tryz.ntmps91
    go_wp2
    go_ret
    exact ⟨_, rfl, World.ownsRow_nil _ _ _ _, Below.refl _ _⟩
  | some a =>
    generalize rows.flatMap rwC = cs at *
    clear hsh
    go_enter Tryz.func91, Tryz.ntmps91
    go_wp2_with (at_builtin; refine wpList_app rfl _ _ 59 rfl slT_items w.heap.size rfl (World.ownsRow_lit w #[] 0 (Nat.le_refl _) (by decide) rfl) rfl (hv.up (below_alloc _ _)) h1 (by simp [maxLen]; omega) (by omega) (by simp) ?_; intro v' w1 hown hgrow _)
    go_ret
    exact ⟨v', rfl, by simpa using hown, grown_below (below_alloc _ _) hgrow (fun k hk => by have : w.heap.size = k := Option.some.inj hk; omega)⟩
theorem ItsR.monoP {S S' : Nat → Prop} {w : World} {l : List It} {rows : List Rw} (h : ItsR S w l rows) (hS : ∀ k, S k → S' k) : ItsR S' w l rows := h.turn fun _ _ _ _ h => h.mono hS
/-- A list's items, and one of bytes behind them, as a slice of one's own. -/
theorem its_with {S : Nat → Prop} {w : World} {L : List It} {rows : List Rw} {v bv : Value} {bl : List UInt8} {base : Nat} (hI : ItsR S w L rows) (hb : SlS S w 1 bv bl.length (by8 bl))
    (ho : w.ownsRow base 62 5 v (L.length + 1) (rows.flatMap rwC ++ rwC ⟨2, 0, bv, ⟨#[]⟩, .slice none 0 0⟩)) (hS : ∀ k, base ≤ k → k < w.heap.size → S k) : ItR S w (lI (L ++ [Prm.bI bl])) (rL v) := by
  have hbi : ItR S w (Prm.bI bl) ⟨2, 0, bv, ⟨#[]⟩, .slice none 0 0⟩ := by
    unfold ItR
    exact ⟨rfl, rfl, rfl, ⟨by omega, by omega⟩, hb, [], ⟨Sl.nil _ _, .inl rfl⟩, by unfold ItsR; rfl⟩
  have h2 := hI.snoc hbi
  unfold ItR
  refine ⟨rfl, rfl, rfl, ⟨by omega, by omega⟩, ⟨Sl.nil _ _, .inl rfl⟩, rows ++ [⟨2, 0, bv, ⟨#[]⟩, .slice none 0 0⟩], ⟨?_, ?_⟩, h2⟩
  · have := Sl.of_own ho
    simpa using this
  · exact .inr fun k hk => hS k (own_of_some ho hk).1 (own_of_some ho hk).2
set_option maxHeartbeats 2000000 in
set_option maxRecDepth 100000 in
/-- The bytes of a list with bytes behind. -/
theorem prWith_c (L : List It) (rows : List Rw) (B : Nat) (la : Option Addr) (lc : Nat) (ba : Option Addr) (bc : Nat) (bl : List UInt8) (w : World) (hB : w.cell? ⟨B, 0, none⟩ = some (.slice la L.length lc))
    (hl : Sl w 5 (.slice la L.length lc) L.length (rows.flatMap rwC)) (hI : ItsR (fun k => k < w.heap.size) w L rows) (hb : SlS (fun k => k < w.heap.size) w 1 (.slice ba bl.length bc) bl.length (by8 bl))
    (hc : chk (lI (L ++ [Prm.bI bl])) = 0) (hx : cnt (lI (L ++ [Prm.bI bl])) ≤ 1000000) (hk : kwB (lI (L ++ [Prm.bI bl]))) (hL : L.length ≤ 100000) (hT : Tabs w) :
    Calls Tryz.prog 90 #[.slice ba bl.length bc, .pointer (some ⟨B, 0, none⟩)] w (Byt (lI (L ++ [Prm.bI bl])) w) := by
  have HCL := Lib.hid (prClone_c rows hI.shp _ _ w hl (by omega))
  have HI := Lib.hid hI
  have HB := Lib.hid hb
  have HC := Lib.hid hc
  have HX := Lib.hid hx
  have HK := Lib.hid hk
  have HT := Lib.hid hT
  clear hl hI hb hc hx hk hT
  have hn1 : IntKind.i64.wrap ((bl.length : Int)) = bl.length ∨ True := .inr trivial
  go_enter Tryz.func90, Tryz.ntmps90
  go_wp2_with (first
    | (go_at_call 91; refine HCL.out.mono ?_; rintro en w1 ⟨v1, rfl, ho1, hb1⟩; obtain ⟨p1, c1, rfl⟩ := own_slice ho1)
    | (at_builtin; refine wpList_app (m := 1) rfl _ _ 59 rfl slT_items w.heap.size rfl (own_up ho1 (below_alloc w1 (.cells (rwC ⟨2, 0, .slice ba bl.length bc, ⟨#[]⟩, .slice none 0 0⟩).toArray 62))) rfl (sl_new5 w1 ⟨2, 0, .slice ba bl.length bc, ⟨#[]⟩, .slice none 0 0⟩) (one_rwS _ _ _ _ _ _ _ _ _) (by simp only [maxLen]; omega) (by omega) (by have := hb1.size; simp; omega) ?_; intro v2 w2 hown hgrow _; obtain ⟨p2, c2, rfl⟩ := own_slice hown; have D2 : Below w.heap.size w w2 := grown_below (below_up hb1 (below_alloc w1 _)) hgrow (fun k hk => (own_of_some ho1 hk).1); have HIT := Lib.hid (its_with (S := fun k => k < w2.heap.size) ((HI.out.up D2).monoP (fun k e => Nat.lt_of_lt_of_le e D2.size)) ((HB.out.up D2).mono (fun k e => Nat.lt_of_lt_of_le e D2.size)) hown (fun k _ e => e)))
    | (go_at_call 86; refine (prList_c _ _ _ _).mono ?_; rintro en w3 ⟨rfl, hb3⟩)
    | (go_at_call 89; refine (prWritten_c (fun k => k < w3.heap.size) _ _ w3 ((HIT.out.up hb3).mono (fun k e => Nat.lt_of_lt_of_le e hb3.size)) HX.out HK.out (HT.out.up (below_up D2 hb3)) (fun k hk => hk) HC.out).mono ?_; rintro en w4 ⟨v4, rfl, ho4, hb4⟩))
  go_ret
  exact ⟨_, rfl, own_down ho4 (below_up D2 hb3).size, below_up (below_up D2 hb3) hb4⟩
end Go.Proofs.YtpkonagjnfphkaaGreatDoor

namespace Go.Proofs.YtpkonagjnfphkaaGreatDoor
open Go.RowKit Trc Cb
set_option linter.unusedSimpArgs false
set_option linter.unusedVariables false
set_option maxHeartbeats 1000000 in
set_option maxRecDepth 100000 in
theorem prEnc2_c (p : Prm.Pr) (g : FuncId) (hg : Enters Tryz.prog g) (x : It) (hq : ∀ w1, Calls Tryz.prog g #[prV p] w1 (MadeE x w1)) (P : Nat) (w : World) (hP : RowAt w P (prC p).toArray 28) :
    Calls Tryz.prog 46 #[.func (.func g) #[] #[], .pointer (some ⟨P, 0, none⟩)] w (MadeE x w) := by
  have HW1 := Lib.hid (below_alloc w (.cells #[.int .i64 0, .int .u64 0, .slice none 0 0, .string ⟨#[]⟩, .slice none 0 0] 62))
  have HZ0 := Lib.hid (RowAt.new w #[.int .i64 0, .int .u64 0, .slice none 0 0, .string ⟨#[]⟩, .slice none 0 0] 62)
  have X0 := hP.below (below_alloc w (.cells #[.int .i64 0, .int .u64 0, .slice none 0 0, .string ⟨#[]⟩, .slice none 0 0] 62))
  have x0 := X0.cell (i := 0) rfl
  have x1 := X0.cell (i := 1) rfl
  have x2 := X0.cell (i := 2) rfl
  have x3 := X0.cell (i := 3) rfl
  have x4 := X0.cell (i := 4) rfl
  have x5 := X0.cell (i := 5) rfl
  have x6 := X0.cell (i := 6) rfl
  have x7 := X0.cell (i := 7) rfl
  have x8 := X0.cell (i := 8) rfl
  have x9 := X0.cell (i := 9) rfl
  have x10 := X0.cell (i := 10) rfl
  have hcl := hq (w.alloc (.cells #[.int .i64 0, .int .u64 0, .slice none 0 0, .string ⟨#[]⟩, .slice none 0 0] 62))
  have HCL := Lib.hid hcl
  clear hcl hq hP X0
  unfold Enters at hg
  go_enter Tryz.func46, Tryz.ntmps46
  go_wp2_with fail
  refine HCL.out.mono ?_
  rintro en w1 ⟨hb1, r8, rfl, hi8⟩
  obtain ⟨k8, n8, ba8, bn8, bc8, s8, la8, ln8, lc8, rfl⟩ := hi8.shape
  have D3 := below_up HW1.out hb1
  have Z3 := HZ0.out.below hb1
  have hs1 : w.heap.size + 1 ≤ w1.heap.size := by have := hb1.size; simpa using this
  replace hi8 := hi8.mono (S' := fun j => w.heap.size < j ∧ j < w1.heap.size) (fun j e => ⟨by have := e.1; simp at this; omega, e.2⟩)
  have z0 := Z3.cell (i := 0) rfl
  have z1 := Z3.cell (i := 1) rfl
  have z2 := Z3.cell (i := 2) rfl
  have z3 := Z3.cell (i := 3) rfl
  have z4 := Z3.cell (i := 4) rfl
  have f0 := Z3.fz 0
  have f1 := Z3.fz 1
  have f2 := Z3.fz 2
  have f3 := Z3.fz 3
  have f4 := Z3.fz 4
  go_wp2
  obtain ⟨h5, hm⟩ := made_end (w := w) Z3 rfl (by omega) D3 hi8
  have g0 := RowAt.cell h5 (i := 0) rfl
  have g1 := RowAt.cell h5 (i := 1) rfl
  have g2 := RowAt.cell h5 (i := 2) rfl
  have g3 := RowAt.cell h5 (i := 3) rfl
  have g4 := RowAt.cell h5 (i := 4) rfl
  exact bodyPost_ret (v := rwV ⟨k8, n8, .slice ba8 bn8 bc8, s8, .slice la8 ln8 lc8⟩) (by simp [results, Tryz.results46, go_sem, g0, g1, g2, g3, g4]) rfl hm
abbrev prFn (g : FuncId) : List Value := [.func (.func g) #[] #[]]
theorem enters_prEnc2 : Enters Tryz.prog 46 := enters_of Tryz.func46 (by kernel_rfl) rfl
/-- Where the items of a list under way may hold their parts. -/
def MdS (w : World) (o : Value) (W : World) (j : Nat) : Prop := w.heap.size ≤ j ∧ j < W.heap.size ∧ o.ownBlock ≠ some j
set_option maxHeartbeats 4000000 in
set_option maxRecDepth 100000 in
theorem prMade_c (p : Prm.Pr) (its : List It) (gs : List FuncId) (P : Nat) (v : Value) (n : Nat) (w : World) (hv : Sl w 1 v n (gs.flatMap prFn)) (hlen : gs.length = its.length) (hn : n ≤ 1000) (hP : RowAt w P (prC p).toArray 28)
    (hg : ∀ g ∈ gs, Enters Tryz.prog g) (hq : ∀ (i : Nat) (hi : i < gs.length) (hi' : i < its.length) (w1 : World), Calls Tryz.prog gs[i] #[prV p] w1 (MadeE its[i] w1)) :
    Calls Tryz.prog 45 #[v, .func (.func 46) #[] #[.pointer (some ⟨P, 0, none⟩)]] w (fun en w' => ∃ v' rows, en = .returned v' ∧ w'.ownsRow w.heap.size 62 5 v' its.length (rows.flatMap rwC) ∧ ItsR (fun k => w.heap.size ≤ k ∧ k < w'.heap.size) w' its rows ∧ Below w.heap.size w w') := by
  have Hln := Lib.hid (Sl.recs (cells := prFn) (sz := 1) (fun _ => rfl) (by decide) hv)
  have HL := Lib.hid hlen
  have HP := Lib.hid hP
  have HG := Lib.hid hg
  have HQ := Lib.hid hq
  have hent := enters_prEnc2
  obtain ⟨a, c, rfl⟩ := hv.len
  clear hlen hP hg hq
  unfold Enters at hent
  go_enter Tryz.func45, Tryz.ntmps45
  go_wp2
  go_loopw [4, 9] (fun o i wr => ∃ (k : Nat) (rows : List Rw), k ≤ n ∧ i = .int .i64 k ∧ wr.ownsRow w.heap.size 62 5 o k (rows.flatMap rwC) ∧ ItsR (MdS w o wr) wr (its.take k) rows ∧ Below w.heap.size w wr) (fun _ i _ => n - (intOf i).toNat)
  case atStart => exact ⟨0, [], Nat.zero_le _, rfl, World.ownsRow_nil _ _ _ _, by simp only [List.take_zero]; unfold ItsR; rfl, Below.refl _ _⟩
  case round =>
    obtain ⟨k, rows, hk, rfl, hown, hits, hB⟩ := hrel
    have HB := Lib.hid hB
    have HIT := Lib.hid hits
    obtain ⟨po, co, rfl⟩ := own_slice hown
    by_cases hlt : k < n
    · have hlg : k < gs.length := by rw [Hln.out]; exact hlt
      have hli : k < its.length := by rw [← HL.out]; exact hlg
      obtain ⟨b, off, rfl, hr⟩ := (hv.up hB).rec_at (cells := prFn) (sz := 1) (fun _ => rfl) hlt hlg
      have c0 := hr 0 _ rfl
      simp only [Nat.mul_one, Nat.add_zero] at c0
      have hcl := prEnc2_c p gs[k] (HG.out _ (List.getElem_mem hlg)) its[k] (HQ.out k hlg hli) P wr (HP.out.below hB)
      have HCL := Lib.hid hcl
      have HTK := Lib.hid (show its.take (k + 1) = its.take k ++ [its[k]] from List.take_succ_eq_append_getElem hli)
      clear hcl hB hits hr
      generalize gs[k] = g at *
      generalize its[k] = x at *
      have HOW := Lib.hid hown
      clear hown
      go_wp2_with (first
        | (refine HCL.out.mono ?_; rintro en w1 ⟨hb1, r8, rfl, hi8⟩; obtain ⟨k8, n8, ba8, bn8, bc8, s8, la8, ln8, lc8, rfl⟩ := hi8.shape)
        | (at_builtin; refine wpList_app_at (m := 1) rfl _ _ 59 rfl slT_items w.heap.size rfl (own_up (own_up HOW.out hb1) (below_alloc w1 (.cells (rwC ⟨k8, n8, .slice ba8 bn8 bc8, s8, .slice la8 ln8 lc8⟩).toArray 62))) rfl (sl_new5 w1 ⟨k8, n8, .slice ba8 bn8 bc8, s8, .slice la8 ln8 lc8⟩) (one_rwS _ _ _ _ _ _ _ _ _) (by simp only [maxLen]; omega) (by omega) (by have := HB.out.size; have := hb1.size; simp; omega) ?_; intro v2 w2 hown2 hgrow _ hob; obtain ⟨p2, c2, rfl⟩ := own_slice hown2))
      have hs1 := hb1.size
      have hsB := HB.out.size
      have Ha := below_alloc w1 (.cells (rwC ⟨k8, n8, .slice ba8 bn8 bc8, s8, .slice la8 ln8 lc8⟩).toArray 62)
      have hw1 : (w1.alloc (.cells (rwC ⟨k8, n8, .slice ba8 bn8 bc8, s8, .slice la8 ln8 lc8⟩).toArray 62)).heap.size = w1.heap.size + 1 := by simp
      have hBut : But (fun j => (Value.slice po k co).ownBlock = some j) (w1.alloc (.cells (rwC ⟨k8, n8, .slice ba8 bn8 bc8, s8, .slice la8 ln8 lc8⟩).toArray 62)) w2 := But.grown hgrow (fun r e => .inl e)
      have hs2 := hBut.size
      have hold : ∀ j, (Value.slice po k co).ownBlock = some j → w.heap.size ≤ j ∧ j < wr.heap.size := fun j e => own_of_some HOW.out e
      have D2 : Below w.heap.size w w2 := ((below_up HB.out hb1).trans (Ha.mono (below_up HB.out hb1).size)).trans (hBut.below (fun j e => (hold j e).1) (by omega))
      have hnew : ∀ j, j < w1.heap.size → (Value.slice po k co).ownBlock ≠ some j → (Value.slice p2 (k + 1) c2).ownBlock ≠ some j := by
        intro j hj hne e
        rcases hob with h | h
        · rw [h] at e; exact hne e
        · rw [h, hw1] at e; have := Option.some.inj e; omega
      have hI2 : ItsR (MdS w (.slice p2 (k + 1) c2) w2) w2 (its.take k) rows := by
        have h1 := (HIT.out.up hb1).up Ha
        have h2 := ItsR.turn (S' := MdS w (.slice p2 (k + 1) c2) w2) (w' := w2) (fun sz v n cs h => (h.but hBut (fun j e => e.2.2)).mono (fun j e => ⟨e.1, by have := e.2.1; omega, hnew j (by have := e.2.1; omega) e.2.2⟩)) h1
        exact h2
      have hX2 : ItR (MdS w (.slice p2 (k + 1) c2) w2) w2 x ⟨k8, n8, .slice ba8 bn8 bc8, s8, .slice la8 ln8 lc8⟩ := by
        have h1 := hi8.up Ha
        have h2 := h1.but hBut (fun j e h => by have := (hold j h).2; omega)
        exact h2.mono (fun j e => ⟨by omega, by omega, hnew j (by omega) (fun h => by have := (hold j h).2; omega)⟩)
      go_roundw
      case rel => exact ⟨k + 1, rows ++ [⟨k8, n8, .slice ba8 bn8 bc8, s8, .slice la8 ln8 lc8⟩], by omega, by go_num, by rw [List.flatMap_append]; simpa using hown2, by rw [HTK.out]; exact hI2.snoc hX2, D2⟩
      case measure => simp [intOf]; omega
    · obtain rfl : k = n := by omega
      have htk : its.take k = its := List.take_of_length_le (by rw [← HL.out, Hln.out]; exact Nat.le_refl _)
      have HL2 := Lib.hid (show its.length = k by rw [← HL.out]; exact Hln.out)
      rw [htk] at HIT
      clear htk
      have HOW := Lib.hid hown
      clear hown hits
      go_wp2
      go_ret
      exact ⟨_, rows, rfl, by rw [HL2.out]; exact HOW.out, ItsR.turn (fun sz v n cs h => h.mono fun j e => ⟨e.1, e.2.1⟩) HIT.out, HB.out⟩
end Go.Proofs.YtpkonagjnfphkaaGreatDoor

namespace Go.Proofs.YtpkonagjnfphkaaGreatDoor
open Go.RowKit Go.ChangeAt
set_option linter.unusedSimpArgs false
set_option linter.unusedVariables false

theorem bytes_of {H : Type} {enc : TypeId × Value → H} {w : World} {base : Nat} {spare : Nat → Bool} {held : Bool} {T : TypeId} (ht : Tryz.prog.underlying T = some (.int .u8)) {v : Value} {n : Nat} {vs : List Value} (hsl : Sl w 1 v n vs)
    (hl : ∀ i, i < n → ∀ (j : Nat) (U : TypeId), [T][j]? = some U → ∃ c, vs[i * 1 + j]? = some c ∧ Leaf enc Tryz.prog w base spare held U c) : ∃ l, vs = by8 l := by
  have hlen : vs.length = n := by have := hsl.1; omega
  have : ∀ (vs : List Value), (∀ i, i < vs.length → ∃ x : UInt8, vs[i]? = some (.int .u8 (x.toNat : Int))) → ∃ l, vs = by8 l := by
    intro vs
    induction vs with
    | nil => intro _; exact ⟨[], rfl⟩
    | cons u vs ih =>
      intro h
      obtain ⟨x, hx⟩ := h 0 (by simp)
      obtain ⟨l, hl⟩ := ih (fun i hi => by have := h (i + 1) (by simpa using hi); simpa using this)
      simp at hx
      exact ⟨x :: l, by rw [hx, hl]; rfl⟩
  refine this vs (fun i hi => ?_)
  obtain ⟨c, hc, hL⟩ := hl i (by omega) 0 T rfl
  obtain ⟨m, rfl, hm⟩ := hL.int ht
  simp [Lit.wf, IntKind.min, IntKind.max, IntKind.signed, IntKind.bits] at hm
  refine ⟨UInt8.ofNat m.toNat, ?_⟩
  have e : ((UInt8.ofNat m.toNat).toNat : Int) = m := by simp only [UInt8.toNat_ofNat']; omega
  rw [e]
  simpa using hc

theorem weightsAll_mem {H : Type} {P : Program} {e : TypeId} {ds : List (DataW H)} {d : DataW H} (hd : d ∈ ds) {n : Nat} (hn : n ∈ d.weights P e) : n ∈ DataW.weightsAll P e ds := by
  induction ds with
  | nil => cases hd
  | cons d0 ds ih =>
    simp only [DataW.weightsAll, List.mem_append]
    rcases List.mem_cons.1 hd with rfl | h
    · exact .inl hn
    · exact .inr (ih h)

/-- A LIST OF LISTS OF BYTES, OPENED. -/
theorem open_lists {H : Type} {enc : TypeId × Value → H} {w : World} {base : Nat} {spare : Nat → Bool} {held : Bool} {t e b : TypeId} {fuel : Nat} {cs : List Value} {x : DataW H × List MemPlace}
    (ht : Tryz.prog.underlying t = some (.slice e)) (he : Tryz.prog.underlying e = some (.slice b)) (hb : Tryz.prog.underlying b = some (.int .u8)) (hls : leaves Tryz.prog 12 b = some [b])
    (c1 : Tryz.prog.cellsOf e = 1) (c2 : Tryz.prog.cellsOf b = 1) (hbb : Tryz.prog.bytesOf b = 1)
    (h : DataW.trod enc Tryz.prog w base spare held fuel t cs = some x) (hw : ∀ n ∈ x.1.weights Tryz.prog t, n ≤ reachBytes) :
    ∃ a len cap vs ls, cs = [.slice a len cap] ∧ SlB w (.slice a len cap) len vs ls ∧ ∀ l ∈ ls, l.length ≤ 140737488351232 := by
  rcases Go.Deep.open_slice1 ht c1 h with ⟨rfl, rfl⟩ | ⟨a, len, cap, m, n, V, D, Pl, rfl, hba, hl, hm, hmm, rfl, hall⟩
  · exact ⟨none, 0, 0, [], [], rfl, ⟨Sl.nil _ _, rfl, fun i u l h => by simp at h⟩, fun l h => by cases h⟩
  · have hlm : len ≤ m := by rw [hmm]; split <;> omega
    have hin : ∀ i, i < len → ∃ l : List UInt8, Sl w 1 (V i) l.length (by8 l) ∧ l.length ≤ 140737488351232 := fun i hi => by
      obtain ⟨_, htr⟩ := hall i (by omega)
      obtain ⟨a', len', cap', us, hcs, hsl, hlf, hnl⟩ := open_flat (ls := [b]) (sz := 1) he hls rfl c2 (by decide) htr
      simp only [List.cons.injEq, and_true] at hcs
      obtain ⟨l, rfl⟩ := bytes_of hb hsl hlf
      have hln := hsl.n_len
      refine ⟨l, by rw [hcs, hln]; exact hsl, ?_⟩
      rcases hnl with ⟨_, h0⟩ | ⟨es, sp, h1, h2⟩
      · omega
      · have hmem : (es.length + sp.length) * Tryz.prog.bytesOf b ∈ (DataW.slice ((List.range len).map D) ((List.range (m - len)).map fun j => D (len + j))).weights Tryz.prog t := by
          simp only [DataW.weights, ht, List.mem_cons, List.mem_append]
          refine .inr (.inl (weightsAll_mem (d := D i) (List.mem_map.2 ⟨i, List.mem_range.2 hi, rfl⟩) ?_))
          rw [show D i = DataW.slice es sp from h1]
          simp [DataW.weights, he]
        have := hw _ hmem
        rw [hbb] at this
        simp only [reachBytes] at this
        omega
    obtain ⟨F, hF⟩ := Go.Deep.choose_lt (n := len) (p := fun i (l : List UInt8) => Sl w 1 (V i) l.length (by8 l) ∧ l.length ≤ 140737488351232) hin
    refine ⟨some a, len, cap, (List.range len).map V, (List.range len).map F, rfl, ⟨⟨by simp, ?_⟩, by simp, fun i u l h1 h2 => ?_⟩, fun l hl => ?_⟩
    · by_cases hz : len = 0
      · exact .inl ⟨_, _, by rw [hz], hz⟩
      · right
        have hspot : a.spot = none := by
          have h1 := (hall 0 (by omega)).1
          have := World.cell?_spot h1
          simpa [Addr.add] using this
        obtain ⟨bb, off, spot⟩ := a
        simp only at hspot
        subst hspot
        refine ⟨bb, off, cap, rfl, hl, hm, fun j u hj => ?_⟩
        obtain ⟨hjl, hj⟩ := List.getElem?_eq_some_iff.1 hj
        simp only [List.length_map, List.length_range] at hjl
        simp only [List.getElem_map, List.getElem_range] at hj
        have h1 := (hall j (by omega)).1
        rw [hj, Addr.add_lit] at h1
        exact h1
    · obtain ⟨hil, rfl⟩ := List.getElem?_eq_some_iff.1 h1
      obtain ⟨hil', rfl⟩ := List.getElem?_eq_some_iff.1 h2
      simp only [List.length_map, List.length_range] at hil
      simp only [List.getElem_map, List.getElem_range]
      exact (hF i hil).1
    · obtain ⟨i, hi, rfl⟩ := List.mem_map.1 hl
      exact (hF i (List.mem_range.1 hi)).2
end Go.Proofs.YtpkonagjnfphkaaGreatDoor
