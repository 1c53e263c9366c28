/-
  PrE: several texts in one (bundle.py).
-/
import Derived.Test.YtpkonagjnfphkaaGreatDoorPmT14
import Derived.Test.YtpkonagjnfphkaaGreatDoorPmT10
import Derived.Test.YtpkonagjnfphkaaGreatDoorPmT18
namespace Go.Proofs.YtpkonagjnfphkaaGreatDoor
open Go.RowKit Trc Cb
set_option linter.unusedSimpArgs false
set_option linter.unusedVariables false
set_option maxRecDepth 100000 in
theorem prNumI_c (n : Nat) (h : n < 9223372036854775808) (w : World) : Calls Tryz.prog 76 #[.int .i64 n] w (Ret (rwV (rU n)) w) := by
  have hw : IntKind.u64.wrap (n : Int) = (n : Int) := by rw [IntKind.wrap_u64]; omega
  go_enter Tryz.func76, Tryz.ntmps76
  go_wp2
  refine bodyPost_ret (v := rwV (rU n)) (by simp [results, Tryz.results76, go_sem]) rfl ?_
  exact ⟨rfl, below_alloc _ _⟩
set_option maxRecDepth 100000 in
theorem prNum32_c (n : Nat) (h : n < 4294967296) (w : World) : Calls Tryz.prog 78 #[.int .u32 n] w (Ret (rwV (rU n)) w) := by
  have hw : IntKind.u64.wrap (n : Int) = (n : Int) := by rw [IntKind.wrap_u64]; omega
  go_enter Tryz.func78, Tryz.ntmps78
  go_wp2
  refine bodyPost_ret (v := rwV (rU n)) (by simp [results, Tryz.results78, go_sem]) rfl ?_
  exact ⟨rfl, below_alloc _ _⟩
set_option maxRecDepth 100000 in
theorem prNum64_c (n : Nat) (h : n < 18446744073709551616) (w : World) : Calls Tryz.prog 87 #[.int .u64 n] w (Ret (rwV (rU n)) w) := by
  have hw : IntKind.u64.wrap (n : Int) = (n : Int) := by rw [IntKind.wrap_u64]; omega
  go_enter Tryz.func87, Tryz.ntmps87
  go_wp2
  refine bodyPost_ret (v := rwV (rU n)) (by simp [results, Tryz.results87, go_sem]) rfl ?_
  exact ⟨rfl, below_alloc _ _⟩
set_option maxRecDepth 100000 in
theorem prNumK_c (n : Nat) (h : n < 9223372036854775808) (w : World) : Calls Tryz.prog 80 #[.int .i64 n] w (Ret (rwV (rU n)) w) := by
  have hw : IntKind.u64.wrap (n : Int) = (n : Int) := by rw [IntKind.wrap_u64]; omega
  go_enter Tryz.func80, Tryz.ntmps80
  go_wp2
  refine bodyPost_ret (v := rwV (rU n)) (by simp [results, Tryz.results80, go_sem]) rfl ?_
  exact ⟨rfl, below_alloc _ _⟩
theorem prNumI7 (w : World) : Calls Tryz.prog 76 #[.int .i64 7] w (Ret (rwV (rU 7)) w) := prNumI_c 7 (by decide) w
set_option maxRecDepth 100000 in
theorem prList_c (a : Option Addr) (n c : Nat) (w : World) : Calls Tryz.prog 86 #[.slice a n c] w (Ret (rwV (rL (.slice a n c))) w) := by
  go_enter Tryz.func86, Tryz.ntmps86
  go_wp2
  refine bodyPost_ret (v := rwV (rL (.slice a n c))) (by simp [results, Tryz.results86, go_sem]) rfl ?_
  exact ⟨rfl, below_alloc _ _⟩
/-- The end of a function that stores an item in its result's cells. -/
theorem made_end {x : It} {w w3 : World} {Z : Nat} {cs : Array Value} {k n : Int} {ba : Option Addr} {bn bc : Nat} {s : ByteArray} {la : Option Addr} {ln lc : Nat} (Z3 : RowAt w3 Z cs 62) (hc : cs.size = 5) (hZ : w.heap.size ≤ Z)
    (D3 : Below w.heap.size w w3) (hi : ItR (fun j => Z < j ∧ j < w3.heap.size) w3 x ⟨k, n, .slice ba bn bc, s, .slice la ln lc⟩) :
    RowAt (((((w3.setCell ⟨Z, 0, none⟩ (.int .i64 k)).setCell ⟨Z, 1, none⟩ (.int .u64 n)).setCell ⟨Z, 2, none⟩ (.slice ba bn bc)).setCell ⟨Z, 3, none⟩ (.string s)).setCell ⟨Z, 4, none⟩ (.slice la ln lc)) Z (rwC ⟨k, n, .slice ba bn bc, s, .slice la ln lc⟩).toArray 62 ∧ MadeE x w (.returned (rwV ⟨k, n, .slice ba bn bc, s, .slice la ln lc⟩)) (((((w3.setCell ⟨Z, 0, none⟩ (.int .i64 k)).setCell ⟨Z, 1, none⟩ (.int .u64 n)).setCell ⟨Z, 2, none⟩ (.slice ba bn bc)).setCell ⟨Z, 3, none⟩ (.string s)).setCell ⟨Z, 4, none⟩ (.slice la ln lc)) := by
  obtain ⟨c0, c1, c2, c3, c4, rfl⟩ : ∃ c0 c1 c2 c3 c4, cs = #[c0, c1, c2, c3, c4] := by
    obtain ⟨l⟩ := cs
    match l, hc with
    | [a, b, c, d, e], _ => exact ⟨a, b, c, d, e, rfl⟩
  obtain ⟨h5, hb5⟩ := set5 Z3 (.int .i64 k) (.int .u64 n) (.slice ba bn bc) (.string s) (.slice la ln lc)
  refine ⟨h5, D3.trans (hb5.below (fun j e => by omega) D3.size), _, rfl, ?_⟩
  have hi2 := hi.but hb5 (fun j e h => by omega)
  exact hi2.mono fun j e => ⟨by omega, by have := hb5.size; omega⟩
set_option maxHeartbeats 1000000 in
set_option maxRecDepth 100000 in
theorem prPoint_c (n m : Nat) (hn : n < 4294967296) (hm : m < 4294967296) (hc : Dig.chkP n m = 0) (w : World) : Calls Tryz.prog 82 #[epV n m] w (MadeE (epI n m) w) := by
  have hW1 := (below_alloc w (.cells #[.int .u32 n, .int .u32 m] 25)).alloc (by simp) (.cells #[.int .i64 0, .int .u64 0, .slice none 0 0, .string ⟨#[]⟩, .slice none 0 0] 62)
  have Z0 : RowAt ((w.alloc (.cells #[.int .u32 n, .int .u32 m] 25)).alloc (.cells #[.int .i64 0, .int .u64 0, .slice none 0 0, .string ⟨#[]⟩, .slice none 0 0] 62)) (w.heap.size + 1) #[.int .i64 0, .int .u64 0, .slice none 0 0, .string ⟨#[]⟩, .slice none 0 0] 62 := by
    have := RowAt.new (w.alloc (.cells #[.int .u32 n, .int .u32 m] 25)) #[.int .i64 0, .int .u64 0, .slice none 0 0, .string ⟨#[]⟩, .slice none 0 0] 62
    rwa [World.size_alloc] at this
  have hcl := nmItem_c n m hn hm ((w.alloc (.cells #[.int .u32 n, .int .u32 m] 25)).alloc (.cells #[.int .i64 0, .int .u64 0, .slice none 0 0, .string ⟨#[]⟩, .slice none 0 0] 62))
  rw [if_pos hc, hc] at hcl
  have hs0 : ((w.alloc (.cells #[.int .u32 n, .int .u32 m] 25)).alloc (.cells #[.int .i64 0, .int .u64 0, .slice none 0 0, .string ⟨#[]⟩, .slice none 0 0] 62)).heap.size = w.heap.size + 2 := by simp
  have HCL := Lib.hid hcl
  have HZ0 := Lib.hid Z0
  have HW1 := Lib.hid hW1
  have HS0 := Lib.hid hs0
  clear hcl Z0 hW1 hs0 hc
  go_enter Tryz.func82, Tryz.ntmps82
  go_wp2_with fail
  refine HCL.out.mono ?_
  rintro en w1 ⟨hb1, r8, rfl, hi8⟩
  obtain ⟨k8, n8, ba8, bn8, bc8, s8, la8, ln8, lc8, rfl⟩ := hi8.shape
  have hb2 := below_up hb1 (below_alloc w1 (.cells (rwC ⟨k8, n8, .slice ba8 bn8 bc8, s8, .slice la8 ln8 lc8⟩).toArray 62))
  have D2 := Lib.hid (below_up HW1.out hb2)
  have Z2 := HZ0.out.below hb2
  have hi2 := hi8.up (below_alloc w1 (.cells (rwC ⟨k8, n8, .slice ba8 bn8 bc8, s8, .slice la8 ln8 lc8⟩).toArray 62))
  have Y2 := RowAt.new w1 (rwC ⟨k8, n8, .slice ba8 bn8 bc8, s8, .slice la8 ln8 lc8⟩).toArray 62
  have hs2 := hb1.size
  have HI2 := Lib.hid hi2
  have HSS := Lib.hid (show w.heap.size + 2 ≤ w1.heap.size by have := HS0.out; omega)
  clear hb1 hb2 hi8 hi2 hs2
  have y0 := Y2.cell (i := 0) (v := .int .i64 k8) rfl
  have y1 := Y2.cell (i := 1) (v := .int .u64 n8) rfl
  have y2 := Y2.cell (i := 2) (v := .slice ba8 bn8 bc8) rfl
  have y3 := Y2.cell (i := 3) (v := .string s8) rfl
  have y4 := Y2.cell (i := 4) (v := .slice la8 ln8 lc8) rfl
  have z0 := Z2.cell (i := 0) rfl
  have z1 := Z2.cell (i := 1) rfl
  have z2 := Z2.cell (i := 2) rfl
  have z3 := Z2.cell (i := 3) rfl
  have z4 := Z2.cell (i := 4) rfl
  have f0 := Z2.fz 0
  have f1 := Z2.fz 1
  have f2 := Z2.fz 2
  have f3 := Z2.fz 3
  have f4 := Z2.fz 4
  go_wp2_with (first
    | (go_at_call 42; with_reducible refine (prMust_yes _ _).mono ?_; rintro en wn ⟨rfl, rfl⟩))
  obtain ⟨h5, hm⟩ := made_end (w := w) Z2 rfl (by omega) D2.out (HI2.out.mono (S' := fun j => w.heap.size + 1 < j ∧ j < (w1.alloc (.cells (rwC ⟨k8, n8, .slice ba8 bn8 bc8, s8, .slice la8 ln8 lc8⟩).toArray 62)).heap.size) (fun j e => ⟨by have h1 := e.1; simp at h1; omega, by have := e.2; simp; omega⟩))
  have g0 := RowAt.cell h5 (i := 0) rfl
  have g1 := RowAt.cell h5 (i := 1) rfl
  have g2 := RowAt.cell h5 (i := 2) rfl
  have g3 := RowAt.cell h5 (i := 3) rfl
  have g4 := RowAt.cell h5 (i := 4) rfl
  exact bodyPost_ret (v := rwV ⟨k8, n8, .slice ba8 bn8 bc8, s8, .slice la8 ln8 lc8⟩) (by simp [results, Tryz.results82, go_sem, g0, g1, g2, g3, g4]) rfl hm
set_option maxHeartbeats 1000000 in
set_option maxRecDepth 100000 in
theorem prPart1_c (p : Prm.Pr) (hp : p.Ok) (hk : Prm.okPr p = true) (w : World) : Calls Tryz.prog 75 #[prV p] w (MadeE (uI 7) w) := by
  obtain ⟨hkf, hks, hkt, hkr, hktm, hkl⟩ := Prm.okPr_parts hk
  have hW1 := (below_alloc w (.cells (prC p).toArray 76)).alloc (by simp) (.cells #[.int .i64 0, .int .u64 0, .slice none 0 0, .string ⟨#[]⟩, .slice none 0 0] 62)
  have Z0 : RowAt ((w.alloc (.cells (prC p).toArray 76)).alloc (.cells #[.int .i64 0, .int .u64 0, .slice none 0 0, .string ⟨#[]⟩, .slice none 0 0] 62)) (w.heap.size + 1) #[.int .i64 0, .int .u64 0, .slice none 0 0, .string ⟨#[]⟩, .slice none 0 0] 62 := by
    have := RowAt.new (w.alloc (.cells (prC p).toArray 76)) #[.int .i64 0, .int .u64 0, .slice none 0 0, .string ⟨#[]⟩, .slice none 0 0] 62
    rwa [World.size_alloc] at this
  have X0 : RowAt ((w.alloc (.cells (prC p).toArray 76)).alloc (.cells #[.int .i64 0, .int .u64 0, .slice none 0 0, .string ⟨#[]⟩, .slice none 0 0] 62)) w.heap.size (prC p).toArray 76 := (RowAt.new w _ _).below (below_alloc _ _)
  have hs0 : ((w.alloc (.cells (prC p).toArray 76)).alloc (.cells #[.int .i64 0, .int .u64 0, .slice none 0 0, .string ⟨#[]⟩, .slice none 0 0] 62)).heap.size = w.heap.size + 2 := by simp
  have x0 := X0.cell (i := 0) rfl
  have x1 := X0.cell (i := 1) rfl
  have x2 := X0.cell (i := 2) rfl
  have x3 := X0.cell (i := 3) rfl
  have x4 := X0.cell (i := 4) rfl
  have x5 := X0.cell (i := 5) rfl
  have x6 := X0.cell (i := 6) rfl
  have x7 := X0.cell (i := 7) rfl
  have x8 := X0.cell (i := 8) rfl
  have x9 := X0.cell (i := 9) rfl
  have x10 := X0.cell (i := 10) rfl
  have hcl := prNumI_c 7 (by decide) ((w.alloc (.cells (prC p).toArray 76)).alloc (.cells #[.int .i64 0, .int .u64 0, .slice none 0 0, .string ⟨#[]⟩, .slice none 0 0] 62))
  have HZ0 := Lib.hid Z0
  have HW1 := Lib.hid hW1
  have HS0 := Lib.hid hs0
  have HNB := Lib.hid (show 7 < 18446744073709551616 by have := hp.f; have := hp.s1; have := hp.l; omega)
  have HCL := Lib.hid hcl
  clear hcl Z0 hW1 hs0 X0 hk hp hkf hks hkt hkr hktm hkl
  go_enter Tryz.func75, Tryz.ntmps75
  go_wp2_with fail
  refine HCL.out.mono ?_
  rintro en w1 ⟨rfl, hb1⟩
  have hi8 := itU (fun j => w.heap.size + 1 < j ∧ j < w1.heap.size) w1 7 HNB.out
  replace hi8 : ItR (fun j => w.heap.size + 1 < j ∧ j < w1.heap.size) w1 (uI 7) ⟨1, 7, .slice none 0 0, ⟨#[]⟩, .slice none 0 0⟩ := hi8
  have D3 := below_up HW1.out hb1
  have Z3 := HZ0.out.below hb1
  have hs1 : w.heap.size + 2 ≤ w1.heap.size := by have := HS0.out; have := hb1.size; omega
  have z0 := Z3.cell (i := 0) rfl
  have z1 := Z3.cell (i := 1) rfl
  have z2 := Z3.cell (i := 2) rfl
  have z3 := Z3.cell (i := 3) rfl
  have z4 := Z3.cell (i := 4) rfl
  have f0 := Z3.fz 0
  have f1 := Z3.fz 1
  have f2 := Z3.fz 2
  have f3 := Z3.fz 3
  have f4 := Z3.fz 4
  go_wp2
  obtain ⟨h5, hm⟩ := made_end (w := w) Z3 rfl (by omega) D3 hi8
  have g0 := RowAt.cell h5 (i := 0) rfl
  have g1 := RowAt.cell h5 (i := 1) rfl
  have g2 := RowAt.cell h5 (i := 2) rfl
  have g3 := RowAt.cell h5 (i := 3) rfl
  have g4 := RowAt.cell h5 (i := 4) rfl
  exact bodyPost_ret (v := rwV ⟨1, 7, .slice none 0 0, ⟨#[]⟩, .slice none 0 0⟩) (by simp [results, Tryz.results75, go_sem, g0, g1, g2, g3, g4]) rfl hm
set_option maxHeartbeats 1000000 in
set_option maxRecDepth 100000 in
theorem prPart2_c (p : Prm.Pr) (hp : p.Ok) (hk : Prm.okPr p = true) (w : World) : Calls Tryz.prog 77 #[prV p] w (MadeE (uI p.flags) w) := by
  obtain ⟨hkf, hks, hkt, hkr, hktm, hkl⟩ := Prm.okPr_parts hk
  have hW1 := (below_alloc w (.cells (prC p).toArray 76)).alloc (by simp) (.cells #[.int .i64 0, .int .u64 0, .slice none 0 0, .string ⟨#[]⟩, .slice none 0 0] 62)
  have Z0 : RowAt ((w.alloc (.cells (prC p).toArray 76)).alloc (.cells #[.int .i64 0, .int .u64 0, .slice none 0 0, .string ⟨#[]⟩, .slice none 0 0] 62)) (w.heap.size + 1) #[.int .i64 0, .int .u64 0, .slice none 0 0, .string ⟨#[]⟩, .slice none 0 0] 62 := by
    have := RowAt.new (w.alloc (.cells (prC p).toArray 76)) #[.int .i64 0, .int .u64 0, .slice none 0 0, .string ⟨#[]⟩, .slice none 0 0] 62
    rwa [World.size_alloc] at this
  have X0 : RowAt ((w.alloc (.cells (prC p).toArray 76)).alloc (.cells #[.int .i64 0, .int .u64 0, .slice none 0 0, .string ⟨#[]⟩, .slice none 0 0] 62)) w.heap.size (prC p).toArray 76 := (RowAt.new w _ _).below (below_alloc _ _)
  have hs0 : ((w.alloc (.cells (prC p).toArray 76)).alloc (.cells #[.int .i64 0, .int .u64 0, .slice none 0 0, .string ⟨#[]⟩, .slice none 0 0] 62)).heap.size = w.heap.size + 2 := by simp
  have x0 := X0.cell (i := 0) rfl
  have x1 := X0.cell (i := 1) rfl
  have x2 := X0.cell (i := 2) rfl
  have x3 := X0.cell (i := 3) rfl
  have x4 := X0.cell (i := 4) rfl
  have x5 := X0.cell (i := 5) rfl
  have x6 := X0.cell (i := 6) rfl
  have x7 := X0.cell (i := 7) rfl
  have x8 := X0.cell (i := 8) rfl
  have x9 := X0.cell (i := 9) rfl
  have x10 := X0.cell (i := 10) rfl
  have hcl := prNum32_c p.flags hp.f ((w.alloc (.cells (prC p).toArray 76)).alloc (.cells #[.int .i64 0, .int .u64 0, .slice none 0 0, .string ⟨#[]⟩, .slice none 0 0] 62))
  have HZ0 := Lib.hid Z0
  have HW1 := Lib.hid hW1
  have HS0 := Lib.hid hs0
  have HNB := Lib.hid (show p.flags < 18446744073709551616 by have := hp.f; have := hp.s1; have := hp.l; omega)
  have HCL := Lib.hid hcl
  clear hcl Z0 hW1 hs0 X0 hk hp hkf hks hkt hkr hktm hkl
  go_enter Tryz.func77, Tryz.ntmps77
  go_wp2_with fail
  refine HCL.out.mono ?_
  rintro en w1 ⟨rfl, hb1⟩
  have hi8 := itU (fun j => w.heap.size + 1 < j ∧ j < w1.heap.size) w1 p.flags HNB.out
  have D3 := below_up HW1.out hb1
  have Z3 := HZ0.out.below hb1
  have hs1 : w.heap.size + 2 ≤ w1.heap.size := by have := HS0.out; have := hb1.size; omega
  have z0 := Z3.cell (i := 0) rfl
  have z1 := Z3.cell (i := 1) rfl
  have z2 := Z3.cell (i := 2) rfl
  have z3 := Z3.cell (i := 3) rfl
  have z4 := Z3.cell (i := 4) rfl
  have f0 := Z3.fz 0
  have f1 := Z3.fz 1
  have f2 := Z3.fz 2
  have f3 := Z3.fz 3
  have f4 := Z3.fz 4
  go_wp2
  obtain ⟨h5, hm⟩ := made_end (w := w) Z3 rfl (by omega) D3 hi8
  have g0 := RowAt.cell h5 (i := 0) rfl
  have g1 := RowAt.cell h5 (i := 1) rfl
  have g2 := RowAt.cell h5 (i := 2) rfl
  have g3 := RowAt.cell h5 (i := 3) rfl
  have g4 := RowAt.cell h5 (i := 4) rfl
  exact bodyPost_ret (v := rwV (rU p.flags)) (by simp [results, Tryz.results77, go_sem, g0, g1, g2, g3, g4]) rfl hm
set_option maxHeartbeats 1000000 in
set_option maxRecDepth 100000 in
theorem prPart3_c (p : Prm.Pr) (hp : p.Ok) (hk : Prm.okPr p = true) (w : World) : Calls Tryz.prog 79 #[prV p] w (MadeE (uI p.sum.toNat) w) := by
  obtain ⟨hkf, hks, hkt, hkr, hktm, hkl⟩ := Prm.okPr_parts hk
  obtain ⟨s, hs⟩ : ∃ s : Nat, (s : Int) = p.sum := ⟨p.sum.toNat, by omega⟩
  rw [show p.sum.toNat = s by omega]
  have hW1 := (below_alloc w (.cells (prC p).toArray 76)).alloc (by simp) (.cells #[.int .i64 0, .int .u64 0, .slice none 0 0, .string ⟨#[]⟩, .slice none 0 0] 62)
  have Z0 : RowAt ((w.alloc (.cells (prC p).toArray 76)).alloc (.cells #[.int .i64 0, .int .u64 0, .slice none 0 0, .string ⟨#[]⟩, .slice none 0 0] 62)) (w.heap.size + 1) #[.int .i64 0, .int .u64 0, .slice none 0 0, .string ⟨#[]⟩, .slice none 0 0] 62 := by
    have := RowAt.new (w.alloc (.cells (prC p).toArray 76)) #[.int .i64 0, .int .u64 0, .slice none 0 0, .string ⟨#[]⟩, .slice none 0 0] 62
    rwa [World.size_alloc] at this
  have X0 : RowAt ((w.alloc (.cells (prC p).toArray 76)).alloc (.cells #[.int .i64 0, .int .u64 0, .slice none 0 0, .string ⟨#[]⟩, .slice none 0 0] 62)) w.heap.size (prC p).toArray 76 := (RowAt.new w _ _).below (below_alloc _ _)
  have hs0 : ((w.alloc (.cells (prC p).toArray 76)).alloc (.cells #[.int .i64 0, .int .u64 0, .slice none 0 0, .string ⟨#[]⟩, .slice none 0 0] 62)).heap.size = w.heap.size + 2 := by simp
  have x1 := X0.cell (i := 1) (v := .int .i64 (s : Int)) (by rw [hs]; rfl)
  have hcl := prNumK_c s (by have := hp.s1; omega) ((w.alloc (.cells (prC p).toArray 76)).alloc (.cells #[.int .i64 0, .int .u64 0, .slice none 0 0, .string ⟨#[]⟩, .slice none 0 0] 62))
  have HZ0 := Lib.hid Z0
  have HW1 := Lib.hid hW1
  have HS0 := Lib.hid hs0
  have HNB := Lib.hid (show s < 18446744073709551616 by have := hp.f; have := hp.s1; have := hp.l; omega)
  have HCL := Lib.hid hcl
  clear hs hcl Z0 hW1 hs0 X0 hk hp hkf hks hkt hkr hktm hkl
  go_enter Tryz.func79, Tryz.ntmps79
  go_wp2_with fail
  refine HCL.out.mono ?_
  rintro en w1 ⟨rfl, hb1⟩
  have hi8 := itU (fun j => w.heap.size + 1 < j ∧ j < w1.heap.size) w1 s HNB.out
  have D3 := below_up HW1.out hb1
  have Z3 := HZ0.out.below hb1
  have hs1 : w.heap.size + 2 ≤ w1.heap.size := by have := HS0.out; have := hb1.size; omega
  have z0 := Z3.cell (i := 0) rfl
  have z1 := Z3.cell (i := 1) rfl
  have z2 := Z3.cell (i := 2) rfl
  have z3 := Z3.cell (i := 3) rfl
  have z4 := Z3.cell (i := 4) rfl
  have f0 := Z3.fz 0
  have f1 := Z3.fz 1
  have f2 := Z3.fz 2
  have f3 := Z3.fz 3
  have f4 := Z3.fz 4
  go_wp2
  obtain ⟨h5, hm⟩ := made_end (w := w) Z3 rfl (by omega) D3 hi8
  have g0 := RowAt.cell h5 (i := 0) rfl
  have g1 := RowAt.cell h5 (i := 1) rfl
  have g2 := RowAt.cell h5 (i := 2) rfl
  have g3 := RowAt.cell h5 (i := 3) rfl
  have g4 := RowAt.cell h5 (i := 4) rfl
  exact bodyPost_ret (v := rwV (rU s)) (by simp [results, Tryz.results79, go_sem, g0, g1, g2, g3, g4]) rfl hm
set_option maxHeartbeats 1000000 in
set_option maxRecDepth 100000 in
theorem prPart4_c (p : Prm.Pr) (hp : p.Ok) (hk : Prm.okPr p = true) (w : World) : Calls Tryz.prog 81 #[prV p] w (MadeE (epI p.toN p.toS) w) := by
  obtain ⟨hkf, hks, hkt, hkr, hktm, hkl⟩ := Prm.okPr_parts hk
  have hW1 := (below_alloc w (.cells (prC p).toArray 76)).alloc (by simp) (.cells #[.int .i64 0, .int .u64 0, .slice none 0 0, .string ⟨#[]⟩, .slice none 0 0] 62)
  have Z0 : RowAt ((w.alloc (.cells (prC p).toArray 76)).alloc (.cells #[.int .i64 0, .int .u64 0, .slice none 0 0, .string ⟨#[]⟩, .slice none 0 0] 62)) (w.heap.size + 1) #[.int .i64 0, .int .u64 0, .slice none 0 0, .string ⟨#[]⟩, .slice none 0 0] 62 := by
    have := RowAt.new (w.alloc (.cells (prC p).toArray 76)) #[.int .i64 0, .int .u64 0, .slice none 0 0, .string ⟨#[]⟩, .slice none 0 0] 62
    rwa [World.size_alloc] at this
  have X0 : RowAt ((w.alloc (.cells (prC p).toArray 76)).alloc (.cells #[.int .i64 0, .int .u64 0, .slice none 0 0, .string ⟨#[]⟩, .slice none 0 0] 62)) w.heap.size (prC p).toArray 76 := (RowAt.new w _ _).below (below_alloc _ _)
  have hs0 : ((w.alloc (.cells (prC p).toArray 76)).alloc (.cells #[.int .i64 0, .int .u64 0, .slice none 0 0, .string ⟨#[]⟩, .slice none 0 0] 62)).heap.size = w.heap.size + 2 := by simp
  have x0 := X0.cell (i := 0) rfl
  have x1 := X0.cell (i := 1) rfl
  have x2 := X0.cell (i := 2) rfl
  have x3 := X0.cell (i := 3) rfl
  have x4 := X0.cell (i := 4) rfl
  have x5 := X0.cell (i := 5) rfl
  have x6 := X0.cell (i := 6) rfl
  have x7 := X0.cell (i := 7) rfl
  have x8 := X0.cell (i := 8) rfl
  have x9 := X0.cell (i := 9) rfl
  have x10 := X0.cell (i := 10) rfl
  have hcl := prPoint_c p.toN p.toS hp.tn hp.ts (Prm.chkP_pos hkt.1) ((w.alloc (.cells (prC p).toArray 76)).alloc (.cells #[.int .i64 0, .int .u64 0, .slice none 0 0, .string ⟨#[]⟩, .slice none 0 0] 62))
  have HZ0 := Lib.hid Z0
  have HW1 := Lib.hid hW1
  have HS0 := Lib.hid hs0
  have HCL := Lib.hid hcl
  clear hcl Z0 hW1 hs0 X0 hk hp hkf hks hkt hkr hktm hkl
  go_enter Tryz.func81, Tryz.ntmps81
  go_wp2_with fail
  refine HCL.out.mono ?_
  rintro en w1 ⟨hb1, r8, rfl, hi8⟩
  obtain ⟨k8, n8, ba8, bn8, bc8, s8, la8, ln8, lc8, rfl⟩ := hi8.shape
  replace hi8 := hi8.mono (S' := fun j => w.heap.size + 1 < j ∧ j < w1.heap.size) (fun j e => ⟨by have := HS0.out; omega, e.2⟩)
  have D3 := below_up HW1.out hb1
  have Z3 := HZ0.out.below hb1
  have hs1 : w.heap.size + 2 ≤ w1.heap.size := by have := HS0.out; have := hb1.size; omega
  have z0 := Z3.cell (i := 0) rfl
  have z1 := Z3.cell (i := 1) rfl
  have z2 := Z3.cell (i := 2) rfl
  have z3 := Z3.cell (i := 3) rfl
  have z4 := Z3.cell (i := 4) rfl
  have f0 := Z3.fz 0
  have f1 := Z3.fz 1
  have f2 := Z3.fz 2
  have f3 := Z3.fz 3
  have f4 := Z3.fz 4
  go_wp2
  obtain ⟨h5, hm⟩ := made_end (w := w) Z3 rfl (by omega) D3 hi8
  have g0 := RowAt.cell h5 (i := 0) rfl
  have g1 := RowAt.cell h5 (i := 1) rfl
  have g2 := RowAt.cell h5 (i := 2) rfl
  have g3 := RowAt.cell h5 (i := 3) rfl
  have g4 := RowAt.cell h5 (i := 4) rfl
  exact bodyPost_ret (v := rwV ⟨k8, n8, .slice ba8 bn8 bc8, s8, .slice la8 ln8 lc8⟩) (by simp [results, Tryz.results81, go_sem, g0, g1, g2, g3, g4]) rfl hm
set_option maxHeartbeats 1000000 in
set_option maxRecDepth 100000 in
theorem prPart5_c (p : Prm.Pr) (hp : p.Ok) (hk : Prm.okPr p = true) (w : World) : Calls Tryz.prog 83 #[prV p] w (MadeE (epI p.srN p.srS) w) := by
  obtain ⟨hkf, hks, hkt, hkr, hktm, hkl⟩ := Prm.okPr_parts hk
  have hW1 := (below_alloc w (.cells (prC p).toArray 76)).alloc (by simp) (.cells #[.int .i64 0, .int .u64 0, .slice none 0 0, .string ⟨#[]⟩, .slice none 0 0] 62)
  have Z0 : RowAt ((w.alloc (.cells (prC p).toArray 76)).alloc (.cells #[.int .i64 0, .int .u64 0, .slice none 0 0, .string ⟨#[]⟩, .slice none 0 0] 62)) (w.heap.size + 1) #[.int .i64 0, .int .u64 0, .slice none 0 0, .string ⟨#[]⟩, .slice none 0 0] 62 := by
    have := RowAt.new (w.alloc (.cells (prC p).toArray 76)) #[.int .i64 0, .int .u64 0, .slice none 0 0, .string ⟨#[]⟩, .slice none 0 0] 62
    rwa [World.size_alloc] at this
  have X0 : RowAt ((w.alloc (.cells (prC p).toArray 76)).alloc (.cells #[.int .i64 0, .int .u64 0, .slice none 0 0, .string ⟨#[]⟩, .slice none 0 0] 62)) w.heap.size (prC p).toArray 76 := (RowAt.new w _ _).below (below_alloc _ _)
  have hs0 : ((w.alloc (.cells (prC p).toArray 76)).alloc (.cells #[.int .i64 0, .int .u64 0, .slice none 0 0, .string ⟨#[]⟩, .slice none 0 0] 62)).heap.size = w.heap.size + 2 := by simp
  have x0 := X0.cell (i := 0) rfl
  have x1 := X0.cell (i := 1) rfl
  have x2 := X0.cell (i := 2) rfl
  have x3 := X0.cell (i := 3) rfl
  have x4 := X0.cell (i := 4) rfl
  have x5 := X0.cell (i := 5) rfl
  have x6 := X0.cell (i := 6) rfl
  have x7 := X0.cell (i := 7) rfl
  have x8 := X0.cell (i := 8) rfl
  have x9 := X0.cell (i := 9) rfl
  have x10 := X0.cell (i := 10) rfl
  have hcl := prPoint_c p.srN p.srS hp.sn hp.ss (Prm.chkP_pos hkt.2) ((w.alloc (.cells (prC p).toArray 76)).alloc (.cells #[.int .i64 0, .int .u64 0, .slice none 0 0, .string ⟨#[]⟩, .slice none 0 0] 62))
  have HZ0 := Lib.hid Z0
  have HW1 := Lib.hid hW1
  have HS0 := Lib.hid hs0
  have HCL := Lib.hid hcl
  clear hcl Z0 hW1 hs0 X0 hk hp hkf hks hkt hkr hktm hkl
  go_enter Tryz.func83, Tryz.ntmps83
  go_wp2_with fail
  refine HCL.out.mono ?_
  rintro en w1 ⟨hb1, r8, rfl, hi8⟩
  obtain ⟨k8, n8, ba8, bn8, bc8, s8, la8, ln8, lc8, rfl⟩ := hi8.shape
  replace hi8 := hi8.mono (S' := fun j => w.heap.size + 1 < j ∧ j < w1.heap.size) (fun j e => ⟨by have := HS0.out; omega, e.2⟩)
  have D3 := below_up HW1.out hb1
  have Z3 := HZ0.out.below hb1
  have hs1 : w.heap.size + 2 ≤ w1.heap.size := by have := HS0.out; have := hb1.size; omega
  have z0 := Z3.cell (i := 0) rfl
  have z1 := Z3.cell (i := 1) rfl
  have z2 := Z3.cell (i := 2) rfl
  have z3 := Z3.cell (i := 3) rfl
  have z4 := Z3.cell (i := 4) rfl
  have f0 := Z3.fz 0
  have f1 := Z3.fz 1
  have f2 := Z3.fz 2
  have f3 := Z3.fz 3
  have f4 := Z3.fz 4
  go_wp2
  obtain ⟨h5, hm⟩ := made_end (w := w) Z3 rfl (by omega) D3 hi8
  have g0 := RowAt.cell h5 (i := 0) rfl
  have g1 := RowAt.cell h5 (i := 1) rfl
  have g2 := RowAt.cell h5 (i := 2) rfl
  have g3 := RowAt.cell h5 (i := 3) rfl
  have g4 := RowAt.cell h5 (i := 4) rfl
  exact bodyPost_ret (v := rwV ⟨k8, n8, .slice ba8 bn8 bc8, s8, .slice la8 ln8 lc8⟩) (by simp [results, Tryz.results83, go_sem, g0, g1, g2, g3, g4]) rfl hm
set_option maxHeartbeats 1000000 in
set_option maxRecDepth 100000 in
theorem prPart6_c (p : Prm.Pr) (hp : p.Ok) (hk : Prm.okPr p = true) (w : World) : Calls Tryz.prog 84 #[prV p] w (MadeE (epI p.rpN p.rpS) w) := by
  obtain ⟨hkf, hks, hkt, hkr, hktm, hkl⟩ := Prm.okPr_parts hk
  have hW1 := (below_alloc w (.cells (prC p).toArray 76)).alloc (by simp) (.cells #[.int .i64 0, .int .u64 0, .slice none 0 0, .string ⟨#[]⟩, .slice none 0 0] 62)
  have Z0 : RowAt ((w.alloc (.cells (prC p).toArray 76)).alloc (.cells #[.int .i64 0, .int .u64 0, .slice none 0 0, .string ⟨#[]⟩, .slice none 0 0] 62)) (w.heap.size + 1) #[.int .i64 0, .int .u64 0, .slice none 0 0, .string ⟨#[]⟩, .slice none 0 0] 62 := by
    have := RowAt.new (w.alloc (.cells (prC p).toArray 76)) #[.int .i64 0, .int .u64 0, .slice none 0 0, .string ⟨#[]⟩, .slice none 0 0] 62
    rwa [World.size_alloc] at this
  have X0 : RowAt ((w.alloc (.cells (prC p).toArray 76)).alloc (.cells #[.int .i64 0, .int .u64 0, .slice none 0 0, .string ⟨#[]⟩, .slice none 0 0] 62)) w.heap.size (prC p).toArray 76 := (RowAt.new w _ _).below (below_alloc _ _)
  have hs0 : ((w.alloc (.cells (prC p).toArray 76)).alloc (.cells #[.int .i64 0, .int .u64 0, .slice none 0 0, .string ⟨#[]⟩, .slice none 0 0] 62)).heap.size = w.heap.size + 2 := by simp
  have x0 := X0.cell (i := 0) rfl
  have x1 := X0.cell (i := 1) rfl
  have x2 := X0.cell (i := 2) rfl
  have x3 := X0.cell (i := 3) rfl
  have x4 := X0.cell (i := 4) rfl
  have x5 := X0.cell (i := 5) rfl
  have x6 := X0.cell (i := 6) rfl
  have x7 := X0.cell (i := 7) rfl
  have x8 := X0.cell (i := 8) rfl
  have x9 := X0.cell (i := 9) rfl
  have x10 := X0.cell (i := 10) rfl
  have hcl := prPoint_c p.rpN p.rpS hp.rn hp.rs hkr ((w.alloc (.cells (prC p).toArray 76)).alloc (.cells #[.int .i64 0, .int .u64 0, .slice none 0 0, .string ⟨#[]⟩, .slice none 0 0] 62))
  have HZ0 := Lib.hid Z0
  have HW1 := Lib.hid hW1
  have HS0 := Lib.hid hs0
  have HCL := Lib.hid hcl
  clear hcl Z0 hW1 hs0 X0 hk hp hkf hks hkt hkr hktm hkl
  go_enter Tryz.func84, Tryz.ntmps84
  go_wp2_with fail
  refine HCL.out.mono ?_
  rintro en w1 ⟨hb1, r8, rfl, hi8⟩
  obtain ⟨k8, n8, ba8, bn8, bc8, s8, la8, ln8, lc8, rfl⟩ := hi8.shape
  replace hi8 := hi8.mono (S' := fun j => w.heap.size + 1 < j ∧ j < w1.heap.size) (fun j e => ⟨by have := HS0.out; omega, e.2⟩)
  have D3 := below_up HW1.out hb1
  have Z3 := HZ0.out.below hb1
  have hs1 : w.heap.size + 2 ≤ w1.heap.size := by have := HS0.out; have := hb1.size; omega
  have z0 := Z3.cell (i := 0) rfl
  have z1 := Z3.cell (i := 1) rfl
  have z2 := Z3.cell (i := 2) rfl
  have z3 := Z3.cell (i := 3) rfl
  have z4 := Z3.cell (i := 4) rfl
  have f0 := Z3.fz 0
  have f1 := Z3.fz 1
  have f2 := Z3.fz 2
  have f3 := Z3.fz 3
  have f4 := Z3.fz 4
  go_wp2
  obtain ⟨h5, hm⟩ := made_end (w := w) Z3 rfl (by omega) D3 hi8
  have g0 := RowAt.cell h5 (i := 0) rfl
  have g1 := RowAt.cell h5 (i := 1) rfl
  have g2 := RowAt.cell h5 (i := 2) rfl
  have g3 := RowAt.cell h5 (i := 3) rfl
  have g4 := RowAt.cell h5 (i := 4) rfl
  exact bodyPost_ret (v := rwV ⟨k8, n8, .slice ba8 bn8 bc8, s8, .slice la8 ln8 lc8⟩) (by simp [results, Tryz.results84, go_sem, g0, g1, g2, g3, g4]) rfl hm
set_option maxHeartbeats 1000000 in
set_option maxRecDepth 100000 in
theorem prPart8_c (p : Prm.Pr) (hp : p.Ok) (hk : Prm.okPr p = true) (w : World) : Calls Tryz.prog 88 #[prV p] w (MadeE (uI p.life) w) := by
  obtain ⟨hkf, hks, hkt, hkr, hktm, hkl⟩ := Prm.okPr_parts hk
  have hW1 := (below_alloc w (.cells (prC p).toArray 76)).alloc (by simp) (.cells #[.int .i64 0, .int .u64 0, .slice none 0 0, .string ⟨#[]⟩, .slice none 0 0] 62)
  have Z0 : RowAt ((w.alloc (.cells (prC p).toArray 76)).alloc (.cells #[.int .i64 0, .int .u64 0, .slice none 0 0, .string ⟨#[]⟩, .slice none 0 0] 62)) (w.heap.size + 1) #[.int .i64 0, .int .u64 0, .slice none 0 0, .string ⟨#[]⟩, .slice none 0 0] 62 := by
    have := RowAt.new (w.alloc (.cells (prC p).toArray 76)) #[.int .i64 0, .int .u64 0, .slice none 0 0, .string ⟨#[]⟩, .slice none 0 0] 62
    rwa [World.size_alloc] at this
  have X0 : RowAt ((w.alloc (.cells (prC p).toArray 76)).alloc (.cells #[.int .i64 0, .int .u64 0, .slice none 0 0, .string ⟨#[]⟩, .slice none 0 0] 62)) w.heap.size (prC p).toArray 76 := (RowAt.new w _ _).below (below_alloc _ _)
  have hs0 : ((w.alloc (.cells (prC p).toArray 76)).alloc (.cells #[.int .i64 0, .int .u64 0, .slice none 0 0, .string ⟨#[]⟩, .slice none 0 0] 62)).heap.size = w.heap.size + 2 := by simp
  have x0 := X0.cell (i := 0) rfl
  have x1 := X0.cell (i := 1) rfl
  have x2 := X0.cell (i := 2) rfl
  have x3 := X0.cell (i := 3) rfl
  have x4 := X0.cell (i := 4) rfl
  have x5 := X0.cell (i := 5) rfl
  have x6 := X0.cell (i := 6) rfl
  have x7 := X0.cell (i := 7) rfl
  have x8 := X0.cell (i := 8) rfl
  have x9 := X0.cell (i := 9) rfl
  have x10 := X0.cell (i := 10) rfl
  have hcl := prNum64_c p.life hp.l ((w.alloc (.cells (prC p).toArray 76)).alloc (.cells #[.int .i64 0, .int .u64 0, .slice none 0 0, .string ⟨#[]⟩, .slice none 0 0] 62))
  have HZ0 := Lib.hid Z0
  have HW1 := Lib.hid hW1
  have HS0 := Lib.hid hs0
  have HNB := Lib.hid (show p.life < 18446744073709551616 by have := hp.f; have := hp.s1; have := hp.l; omega)
  have HCL := Lib.hid hcl
  clear hcl Z0 hW1 hs0 X0 hk hp hkf hks hkt hkr hktm hkl
  go_enter Tryz.func88, Tryz.ntmps88
  go_wp2_with fail
  refine HCL.out.mono ?_
  rintro en w1 ⟨rfl, hb1⟩
  have hi8 := itU (fun j => w.heap.size + 1 < j ∧ j < w1.heap.size) w1 p.life HNB.out
  have D3 := below_up HW1.out hb1
  have Z3 := HZ0.out.below hb1
  have hs1 : w.heap.size + 2 ≤ w1.heap.size := by have := HS0.out; have := hb1.size; omega
  have z0 := Z3.cell (i := 0) rfl
  have z1 := Z3.cell (i := 1) rfl
  have z2 := Z3.cell (i := 2) rfl
  have z3 := Z3.cell (i := 3) rfl
  have z4 := Z3.cell (i := 4) rfl
  have f0 := Z3.fz 0
  have f1 := Z3.fz 1
  have f2 := Z3.fz 2
  have f3 := Z3.fz 3
  have f4 := Z3.fz 4
  go_wp2
  obtain ⟨h5, hm⟩ := made_end (w := w) Z3 rfl (by omega) D3 hi8
  have g0 := RowAt.cell h5 (i := 0) rfl
  have g1 := RowAt.cell h5 (i := 1) rfl
  have g2 := RowAt.cell h5 (i := 2) rfl
  have g3 := RowAt.cell h5 (i := 3) rfl
  have g4 := RowAt.cell h5 (i := 4) rfl
  exact bodyPost_ret (v := rwV (rU p.life)) (by simp [results, Tryz.results88, go_sem, g0, g1, g2, g3, g4]) rfl hm
set_option maxHeartbeats 1000000 in
set_option maxRecDepth 100000 in
theorem prPart7_c (p : Prm.Pr) (hp : p.Ok) (w : World) : Calls Tryz.prog 85 #[prV p] w (MadeE (lI [uI p.time, uI p.seq]) w) := by
  obtain ⟨iI, hiI, hzI, hsI, _⟩ := infoIt
  have hW1 := (below_alloc w (.cells (prC p).toArray 76)).alloc (by simp) (.cells #[.int .i64 0, .int .u64 0, .slice none 0 0, .string ⟨#[]⟩, .slice none 0 0] 62)
  have Z0 : RowAt ((w.alloc (.cells (prC p).toArray 76)).alloc (.cells #[.int .i64 0, .int .u64 0, .slice none 0 0, .string ⟨#[]⟩, .slice none 0 0] 62)) (w.heap.size + 1) #[.int .i64 0, .int .u64 0, .slice none 0 0, .string ⟨#[]⟩, .slice none 0 0] 62 := by
    have := RowAt.new (w.alloc (.cells (prC p).toArray 76)) #[.int .i64 0, .int .u64 0, .slice none 0 0, .string ⟨#[]⟩, .slice none 0 0] 62
    rwa [World.size_alloc] at this
  have X0 : RowAt ((w.alloc (.cells (prC p).toArray 76)).alloc (.cells #[.int .i64 0, .int .u64 0, .slice none 0 0, .string ⟨#[]⟩, .slice none 0 0] 62)) w.heap.size (prC p).toArray 76 := (RowAt.new w _ _).below (below_alloc _ _)
  have HZ0 := Lib.hid Z0
  have HW1 := Lib.hid hW1
  clear hW1 Z0
  go_enter Tryz.func85, Tryz.ntmps85
  go_wp2
  refine wp_region_pt (fun k => k = w.heap.size + 1) (.q 0 (.q 1 (.q 2 (.q 4 (.q 5 (.q 6 (.c 3 (.c 7 (.c 8 (.c 9 (.c 10 .done))))))))))) (by kernel_rfl) (by kernel_rfl) (by kernel_rfl) (by decide) (fun _ _ d _ _ h => by cases d <;> exact h) (fun Wd hBd => ?_)
  try simp only [Act.put, List.getElem_toArray, List.getElem_cons_zero, List.getElem_cons_succ, List.setIfInBounds_toArray, List.set_cons_zero, List.set_cons_succ]
  have B0 := below_up HW1.out hBd
  have Zd := HZ0.out.below hBd
  have K0 := X0.below hBd
  have k1 := RowAt.cell K0 (i := 8) (v := .int .u64 p.time) rfl
  have k2 := RowAt.cell K0 (i := 9) (v := .int .u32 p.seq) rfl
  have hs0 : w.heap.size + 2 ≤ Wd.heap.size := RowAt.lt Zd
  iterate 2
    refine pt_q (v := ?_) rfl (by rfl) ?_ ?_
    rotate_left
    · intro w' hBw'
      first | (go_simp; done) | (go_simp; with_reducible rfl)
    try simp only [Act.put, List.getElem_toArray, List.getElem_cons_zero, List.getElem_cons_succ, List.setIfInBounds_toArray, List.set_cons_zero, List.set_cons_succ]
  refine pt_q (v := ?_) rfl (by rfl) ?_ ?_
  rotate_left
  · intro w' hBw'
    have qL := hBw'.cell k1 (by omega)
    first | (go_simp; done) | (go_simp; with_reducible rfl)
  iterate 2
    try simp only [Act.put, List.getElem_toArray, List.getElem_cons_zero, List.getElem_cons_succ, List.setIfInBounds_toArray, List.set_cons_zero, List.set_cons_succ]
    refine pt_q (v := ?_) rfl (by rfl) ?_ ?_
    rotate_left
    · intro w' hBw'
      first | (go_simp; done) | (go_simp; with_reducible rfl)
  try simp only [Act.put, List.getElem_toArray, List.getElem_cons_zero, List.getElem_cons_succ, List.setIfInBounds_toArray, List.set_cons_zero, List.set_cons_succ]
  refine pt_q (v := ?_) rfl (by rfl) ?_ ?_
  rotate_left
  · intro w' hBw'
    have qL := hBw'.cell k2 (by omega)
    first | (go_simp; done) | (go_simp; with_reducible rfl)
  try simp only [Act.put, List.getElem_toArray, List.getElem_cons_zero, List.getElem_cons_succ, List.setIfInBounds_toArray, List.set_cons_zero, List.set_cons_succ]
  refine pt_c ?_
  refine pt_step rfl (by rfl) (fun K hK => ?_)
  go_simp
  refine (prNum64_c p.time hp.t _).mono ?_
  rintro en w1 ⟨rfl, hb1⟩
  refine hK.out _ _ (But.of_below hb1) ?_
  clear hK K
  try simp only [Act.put, List.getElem_toArray, List.getElem_cons_zero, List.getElem_cons_succ, List.setIfInBounds_toArray, List.set_cons_zero, List.set_cons_succ]
  refine pt_c ?_
  refine pt_step rfl (by rfl) (fun K hK => ?_)
  go_simp
  refine (prNum32_c p.seq hp.q _).mono ?_
  rintro en w2 ⟨rfl, hb2⟩
  refine hK.out _ _ (But.of_below hb2) ?_
  clear hK K
  try simp only [Act.put, List.getElem_toArray, List.getElem_cons_zero, List.getElem_cons_succ, List.setIfInBounds_toArray, List.set_cons_zero, List.set_cons_succ]
  refine pt_c ?_
  refine pt_buildSlice rfl (by rfl) 59 62 2 #[(0, .tmp 6), (1, .tmp 10)] rfl ([rU p.time, rU p.seq].flatMap rwC).toArray iI _ Tryz.underlying59 hiI hzI (by rw [hsI]; decide) (by rw [hsI]; decide) [(0, rwV (rU p.time)), (1, rwV (rU p.seq))] rfl (by rw [hsI]; exact filled2 _ _) ?_
  try simp only [Act.put, List.getElem_toArray, List.getElem_cons_zero, List.getElem_cons_succ, List.setIfInBounds_toArray, List.set_cons_zero, List.set_cons_succ]
  have I4 := RowAt.new w2 ([rU p.time, rU p.seq].flatMap rwC).toArray 62
  have hq4 := below_alloc w2 (.cells ([rU p.time, rU p.seq].flatMap rwC).toArray 62)
  obtain ⟨W4, hW4⟩ : ∃ x, w2.alloc (.cells ([rU p.time, rU p.seq].flatMap rwC).toArray 62) = x := ⟨_, rfl⟩
  rw [hW4] at I4 hq4 ⊢
  refine pt_c ?_
  refine pt_step rfl (by rfl) (fun K hK => ?_)
  go_simp
  refine (prList_c _ _ _ _).mono ?_
  rintro en w6 ⟨rfl, hb6⟩
  refine hK.out _ _ (But.of_below hb6) ?_
  clear hK K
  try simp only [Act.put, List.getElem_toArray, List.getElem_cons_zero, List.getElem_cons_succ, List.setIfInBounds_toArray, List.set_cons_zero, List.set_cons_succ]
  have h18 := below_up hb1 (below_up hb2 (below_up hq4 hb6))
  have Z8 := Zd.below h18
  have D8 := below_up B0 h18
  have I8 := RowAt.below I4 hb6
  have hs2 : Wd.heap.size ≤ w2.heap.size := (below_up hb1 hb2).size
  refine pt_c ?_
  refine pt_put_row rfl (by rfl) 62 _ _ rfl (w.heap.size + 1) (rwC (rL (.slice (some ⟨w2.heap.size, 0, none⟩) 2 2))) rfl rfl Z8 rfl (by kernel_rfl) rfl rfl ?_
  try simp only [Act.put, List.getElem_toArray, List.getElem_cons_zero, List.getElem_cons_succ, List.setIfInBounds_toArray, List.set_cons_zero, List.set_cons_succ]
  intro w9 R9 hb9
  have D9 := D8.trans (hb9.below (fun k e => by omega) D8.size)
  have I9 := (hb9.same _ (RowAt.lt I8) (by omega)).trans I8
  refine pt_done ?_
  go_wp2
  have g0 := RowAt.cell R9 (i := 0) rfl
  have g1 := RowAt.cell R9 (i := 1) rfl
  have g2 := RowAt.cell R9 (i := 2) rfl
  have g3 := RowAt.cell R9 (i := 3) rfl
  have g4 := RowAt.cell R9 (i := 4) rfl
  refine bodyPost_ret (v := rwV (rL (.slice (some ⟨w2.heap.size, 0, none⟩) 2 2))) (by simp [results, Tryz.results85, go_sem, g0, g1, g2, g3, g4]) rfl ?_
  exact ⟨D9, _, rfl, itL (its2 (itU _ _ p.time (by have := hp.t; omega)) (itU _ _ p.seq (by have := hp.q; omega))) I9 ⟨by omega, RowAt.lt I9⟩ (by show 2 ≤ 1000; decide)⟩
end Go.Proofs.YtpkonagjnfphkaaGreatDoor
