/-
  NmIt, NmOf: several texts in one (bundle.py).
-/
import Derived.Test.YtpkonagjnfphkaaGreatDoorPmY18
import Derived.Test.YtpkonagjnfphkaaGreatDoorPmY10
import Derived.Test.YtpkonagjnfphkaaGreatDoorPmY14
import Derived.Test.YtpkonagjnfphkaaGreatDoorPmY07
import Derived.Test.YtpkonagjnfphkaaGreatDoorPmY06
import Derived.Test.YtpkonagjnfphkaaGreatDoorPmY17
set_option linter.unusedSimpArgs false
set_option linter.unusedVariables false
set_option maxRecDepth 100000
set_option maxHeartbeats 2000000
namespace Go.Proofs.YtpkonagjnfphkaaGreatDoor
open Go.RowKit Trc Cb
namespace Cb
abbrev uI (n : Nat) : It := .mk 1 n [] ⟨#[]⟩ []
abbrev lI (l : List It) : It := .mk 4 0 [] ⟨#[]⟩ l
def epI (n m : Nat) : It := if n = 0 then lI [uI 1, uI 0] else lI [uI 2, lI [uI n, uI m]]
end Cb
abbrev rU (n : Nat) : Rw := ⟨1, n, .slice none 0 0, ⟨#[]⟩, .slice none 0 0⟩
abbrev rL (v : Value) : Rw := ⟨4, 0, .slice none 0 0, ⟨#[]⟩, v⟩
abbrev rZ : Rw := ⟨0, 0, .slice none 0 0, ⟨#[]⟩, .slice none 0 0⟩
theorem itU (S : Nat → Prop) (w : World) (n : Nat) (h : n < 18446744073709551616) : ItR S w (uI n) (rU n) := by
  unfold ItR; exact ⟨rfl, rfl, rfl, ⟨by omega, by omega⟩, ⟨Sl.nil _ _, .inl rfl⟩, [], ⟨Sl.nil _ _, .inl rfl⟩, by unfold ItsR; rfl⟩
theorem itL {S : Nat → Prop} {w : World} {l : List It} {rows : List Rw} {B : Nat} {T : TypeId} (hr : ItsR S w l rows) (hB : RowAt w B (rows.flatMap rwC).toArray T) (hS : S B) (hl : l.length ≤ 1000) : ItR S w (lI l) (rL (.slice (some ⟨B, 0, none⟩) l.length l.length)) := by
  have hlen := hr.len; unfold ItR; refine ⟨rfl, rfl, rfl, ⟨by omega, by omega⟩, ⟨Sl.nil _ _, .inl rfl⟩, rows, ⟨⟨?_, .inr ⟨B, 0, l.length, rfl, Nat.le_refl _, by unfold maxLen; omega, fun j u hj => ?_⟩⟩, .inr fun k hk => ?_⟩, hr⟩
  · rw [← hlen]
    clear hr hB hlen hl
    induction rows with
    | nil => rfl
    | cons r rows ih => simp only [List.flatMap_cons, List.length_append, ih, List.length_cons, List.length_nil]; omega
  · rw [Nat.zero_add]; exact hB.cell (by simpa using hj)
  · have : B = k := by simpa [Value.ownBlock] using hk
    rw [← this]; exact hS
theorem its2 {S : Nat → Prop} {w : World} {x y : It} {r t : Rw} (h1 : ItR S w x r) (h2 : ItR S w y t) : ItsR S w [x, y] [r, t] := by
  unfold ItsR; exact ⟨r, [t], rfl, h1, by unfold ItsR; exact ⟨t, [], rfl, h2, by unfold ItsR; rfl⟩⟩
abbrev zIt : Value := .agg #[.int .i64 0, .int .u64 0, .slice none 0 0, .string ⟨#[]⟩, .slice none 0 0]
theorem filled2 (r t : Rw) : Instr.fill (fun i => some (i * 5, 5)) ((Array.range (2 * 5)).map (zIt.cells[· % zIt.cells.size]!)) [(0, rwV r), (1, rwV t)] = some ([r, t].flatMap rwC).toArray := by kernel_rfl
theorem infoIt : ∃ i, Tryz.prog.info? 62 = some i ∧ i.zero = some zIt ∧ i.size = 5 ∧ i.bytes = 80 := by
  obtain ⟨i, hi, h1, h2, h3⟩ := info_parts (P := Tryz.prog) (e := 62) (z := zIt) (size := 5) (bytes := 80) (by kernel_rfl); exact ⟨i, hi, h1, h2, h3⟩
theorem item32_c (n : Nat) (h : n < 4294967296) (w : World) : Calls Tryz.prog 154 #[.int .u32 n] w (Ret (rwV (rU n)) w) := by
  have hw : IntKind.u64.wrap (n : Int) = (n : Int) := by rw [IntKind.wrap_u64]; omega
  go_enter Tryz.func154, Tryz.ntmps154; go_wp2; refine bodyPost_ret (v := rwV (rU n)) (by simp [results, Tryz.results154, go_sem]) rfl ?_; exact ⟨rfl, below_alloc _ _⟩
theorem itemI_c (n : Nat) (h : n < 4294967296) (w : World) : Calls Tryz.prog 153 #[.int .i64 n] w (Ret (rwV (rU n)) w) := by
  have hw : IntKind.u64.wrap (n : Int) = (n : Int) := by rw [IntKind.wrap_u64]; omega
  go_enter Tryz.func153, Tryz.ntmps153; go_wp2; refine bodyPost_ret (v := rwV (rU n)) (by simp [results, Tryz.results153, go_sem]) rfl ?_; exact ⟨rfl, below_alloc _ _⟩
theorem itemI0 (w : World) : Calls Tryz.prog 153 #[.int .i64 0] w (Ret (rwV (rU 0)) w) := itemI_c 0 (by decide) w
theorem itemI1 (w : World) : Calls Tryz.prog 153 #[.int .i64 1] w (Ret (rwV (rU 1)) w) := itemI_c 1 (by decide) w
theorem itemI2 (w : World) : Calls Tryz.prog 153 #[.int .i64 2] w (Ret (rwV (rU 2)) w) := itemI_c 2 (by decide) w
theorem nmList_c (a : Option Addr) (n c : Nat) (w : World) : Calls Tryz.prog 152 #[.slice a n c] w (Ret (rwV (rL (.slice a n c))) w) := by
  go_enter Tryz.func152, Tryz.ntmps152; go_wp2; refine bodyPost_ret (v := rwV (rL (.slice a n c))) (by simp [results, Tryz.results152, go_sem]) rfl ?_; exact ⟨rfl, below_alloc _ _⟩
def MadeE (x : It) (w : World) (en : Ending) (w' : World) : Prop := Below w.heap.size w w' ∧ ∃ r, en = .returned (rwV r) ∧ ItR (fun k => w.heap.size ≤ k ∧ k < w'.heap.size) w' x r
theorem itemOf_c (n m : Nat) (hn : n < 4294967296) (hm : m < 4294967296) (w : World) : Calls Tryz.prog 133 #[epV n m] w (MadeE (epI n m) w) := by
  obtain ⟨iI, hiI, hzI, hsI, _⟩ := infoIt; have Q0 := RowAt.new w #[.int .u32 n, .int .u32 m] 25; have Z0 := RowAt.new (w.alloc (.cells #[.int .u32 n, .int .u32 m] 25)) (rwC rZ).toArray 62; have Q1 := Q0.alloc (.cells (rwC rZ).toArray 62); have hB1 : Below w.heap.size w ((w.alloc (.cells #[.int .u32 n, .int .u32 m] 25)).alloc (.cells (rwC rZ).toArray 62)) := (below_alloc w _).alloc (by simp) _; simp only [World.size_alloc] at Z0
  have hz1 : ((w.alloc (.cells #[.int .u32 n, .int .u32 m] 25)).alloc (.cells (rwC rZ).toArray 62)).heap.size = w.heap.size + 2 := by simp
  by_cases h : n = 0
  · subst h
    rw [show epI 0 m = lI [uI 1, uI 0] from if_pos rfl]; go_enter Tryz.func133, Tryz.ntmps133
    go_wp2_with (first
      | (go_at_call 153; (with_reducible refine (itemI1 _).mono ?_); rintro en w1 ⟨rfl, hb1⟩)
      | (go_at_call 153; (with_reducible refine (itemI0 _).mono ?_); rintro en w2 ⟨rfl, hb2⟩))
    have hqa := below_alloc w2 (.cells ([rU 1, rU 0].flatMap rwC).toArray 62); have HB2 := RowAt.new w2 ([rU 1, rU 0].flatMap rwC).toArray 62; change Calls _ _ _ (w2.alloc (.cells ([rU 1, rU 0].flatMap rwC).toArray 62)) _; obtain ⟨W2, hW2⟩ : ∃ x, w2.alloc (.cells ([rU 1, rU 0].flatMap rwC).toArray 62) = x := ⟨_, rfl⟩; rw [hW2] at hqa HB2 ⊢; refine (nmList_c _ _ _ _).mono ?_; rintro en w3 ⟨rfl, hb3⟩; have D2 := below_up hB1 (below_up hb1 hb2); have hb13 := below_up hb1 (below_up hb2 (below_up hqa hb3)); have D3 := below_up hB1 hb13; have Z3 := Z0.below hb13; have B3 := HB2.below hb3; have hlow : w.heap.size + 2 ≤ w2.heap.size := RowAt.lt (Z0.below (below_up hb1 hb2)); clear hW2; have z0 := RowAt.cell Z3 (i := 0) rfl; have z1 := RowAt.cell Z3 (i := 1) rfl; have z2 := RowAt.cell Z3 (i := 2) rfl; have z3 := RowAt.cell Z3 (i := 3) rfl
    have z4 := RowAt.cell Z3 (i := 4) rfl; have f0 := RowAt.fz Z3 0; have f1 := RowAt.fz Z3 1; have f2 := RowAt.fz Z3 2; have f3 := RowAt.fz Z3 3; have f4 := RowAt.fz Z3 4; go_wp2; obtain ⟨h5, hb5⟩ := set5 Z3 (.int .i64 4) (.int .u64 0) (.slice none 0 0) (.string ⟨#[]⟩) (.slice (some ⟨w2.heap.size, 0, none⟩) 2 2); have B5 := (hb5.same _ B3.lt (by omega)).trans B3; obtain ⟨W5, hW5⟩ : ∃ x, (((((w3.setCell ⟨w.heap.size + 1, 0, none⟩ (.int .i64 4)).setCell ⟨w.heap.size + 1, 1, none⟩ (.int .u64 0)).setCell ⟨w.heap.size + 1, 2, none⟩ (.slice none 0 0)).setCell ⟨w.heap.size + 1, 3, none⟩ (.string ⟨#[]⟩)).setCell ⟨w.heap.size + 1, 4, none⟩ (.slice (some ⟨w2.heap.size, 0, none⟩) 2 2)) = x := ⟨_, rfl⟩; rw [hW5] at h5 hb5 B5 ⊢; have g0 := RowAt.cell h5 (i := 0) rfl; have g1 := RowAt.cell h5 (i := 1) rfl; have g2 := RowAt.cell h5 (i := 2) rfl; have g3 := RowAt.cell h5 (i := 3) rfl; have g4 := RowAt.cell h5 (i := 4) rfl
    refine bodyPost_ret (v := rwV (rL (.slice (some ⟨w2.heap.size, 0, none⟩) 2 2))) (by simp [results, Tryz.results133, go_sem, g0, g1, g2, g3, g4]) rfl ?_; refine ⟨D3.trans (hb5.below (fun k e => by omega) D3.size), _, rfl, itL (its2 (itU _ _ 1 (by decide)) (itU _ _ 0 (by decide))) B5 ⟨by omega, RowAt.lt B5⟩ (by decide)⟩
  · have hd : (((n : Int)) == 0) = false := by simp; omega
    rw [show epI n m = lI [uI 2, lI [uI n, uI m]] from if_neg h]; clear h; go_enter Tryz.func133, Tryz.ntmps133; go_wp2; refine wp_region_pt (fun k => k = w.heap.size + 1) (.q 1 (.q 2 (.q 4 (.q 5 (.c 0 (.c 3 (.c 6 (.c 7 (.c 8 (.c 9 (.c 10 (.c 11 .done)))))))))))) (by kernel_rfl) (by kernel_rfl) (by kernel_rfl) (by decide) (fun _ _ d _ _ h => by cases d <;> exact h) (fun Wd hBd => ?_)
    try simp only [zq]
    have B0 := below_up hB1 hBd; have Zd := Z0.below hBd; have k0 := RowAt.cell (Q1.below hBd) (i := 0) rfl; have k1 := RowAt.cell (Q1.below hBd) (i := 1) rfl; have hs0 : w.heap.size + 2 ≤ Wd.heap.size := RowAt.lt Zd; refine zt rfl (by rfl) ?_; refine ztg rfl (by rfl) (fun w' hBw' => hBw'.cell k0 (by omega)) ?_; refine zt rfl (by rfl) ?_; refine ztg rfl (by rfl) (fun w' hBw' => hBw'.cell k1 (by omega)) ?_
    refine zc fun K hK => ?_
    go_simp; refine (itemI2 _).mono ?_; rintro en w1 ⟨rfl, hb1⟩; refine hK.out _ _ (But.of_below hb1) ?_; clear hK K
    try simp only [zq]
    refine zc fun K hK => ?_
    go_simp; refine (item32_c n hn _).mono ?_; rintro en w2 ⟨rfl, hb2⟩; refine hK.out _ _ (But.of_below hb2) ?_; clear hK K
    try simp only [zq]
    refine zc fun K hK => ?_
    go_simp; refine (item32_c m hm _).mono ?_; rintro en w3 ⟨rfl, hb3⟩; refine hK.out _ _ (But.of_below hb3) ?_; clear hK K
    try simp only [zq]
    refine pt_c ?_; refine pt_buildSlice rfl (by rfl) 59 62 2 #[(0, .tmp 13), (1, .tmp 16)] rfl ([rU n, rU m].flatMap rwC).toArray iI _ Tryz.underlying59 hiI hzI (by rw [hsI]; decide) (by rw [hsI]; decide) [(0, rwV (rU n)), (1, rwV (rU m))] rfl (by rw [hsI]; exact filled2 _ _) ?_
    try simp only [zq]
    have I4 := RowAt.new w3 ([rU n, rU m].flatMap rwC).toArray 62; have hq4 := below_alloc w3 (.cells ([rU n, rU m].flatMap rwC).toArray 62); obtain ⟨W4, hW4⟩ : ∃ x, w3.alloc (.cells ([rU n, rU m].flatMap rwC).toArray 62) = x := ⟨_, rfl⟩; rw [hW4] at I4 hq4 ⊢
    refine zc fun K hK => ?_
    go_simp; refine (nmList_c _ _ _ _).mono ?_; rintro en w6 ⟨rfl, hb6⟩; refine hK.out _ _ (But.of_below hb6) ?_; clear hK K
    try simp only [zq]
    refine pt_c ?_; refine pt_buildSlice rfl (by rfl) 59 62 2 #[(0, .tmp 10), (1, .tmp 18)] rfl ([rU 2, rL (.slice (some ⟨w3.heap.size, 0, none⟩) 2 2)].flatMap rwC).toArray iI _ Tryz.underlying59 hiI hzI (by rw [hsI]; decide) (by rw [hsI]; decide) [(0, rwV (rU 2)), (1, rwV (rL (.slice (some ⟨w3.heap.size, 0, none⟩) 2 2)))] rfl (by rw [hsI]; exact filled2 _ _) ?_
    try simp only [zq]
    have O7 := RowAt.new w6 ([rU 2, rL (.slice (some ⟨w3.heap.size, 0, none⟩) 2 2)].flatMap rwC).toArray 62; have hq7 := below_alloc w6 (.cells ([rU 2, rL (.slice (some ⟨w3.heap.size, 0, none⟩) 2 2)].flatMap rwC).toArray 62); obtain ⟨W7, hW7⟩ : ∃ x, w6.alloc (.cells ([rU 2, rL (.slice (some ⟨w3.heap.size, 0, none⟩) 2 2)].flatMap rwC).toArray 62) = x := ⟨_, rfl⟩; rw [hW7] at O7 hq7 ⊢
    refine zc fun K hK => ?_
    go_simp; refine (nmList_c _ _ _ _).mono ?_; rintro en w8 ⟨rfl, hb8⟩; refine hK.out _ _ (But.of_below hb8) ?_; clear hK K
    try simp only [zq]
    have hs3 : w.heap.size + 2 ≤ w3.heap.size := by have := (below_up hb1 (below_up hb2 hb3)).size; omega
    have hs6 : w3.heap.size < w6.heap.size := RowAt.lt (RowAt.below I4 hb6); have h18 := below_up hb1 (below_up hb2 (below_up hb3 (below_up hq4 (below_up hb6 (below_up hq7 hb8))))); have Z8 := Zd.below h18; have D8 := below_up B0 h18; have I8 := RowAt.below I4 (below_up hb6 (below_up hq7 hb8)); have O8 := RowAt.below O7 hb8; refine pt_c ?_; refine pt_put_row rfl (by rfl) 62 _ _ rfl (w.heap.size + 1) (rwC (rL (.slice (some ⟨w6.heap.size, 0, none⟩) 2 2))) rfl rfl Z8 rfl (by kernel_rfl) rfl rfl ?_
    try simp only [zq]
    intro w9 R9 hb9; have D9 := D8.trans (hb9.below (fun k e => by omega) D8.size); have I9 := (hb9.same _ (RowAt.lt I8) (by omega)).trans I8; have O9 := (hb9.same _ (RowAt.lt O8) (by omega)).trans O8; refine pt_done ?_; go_wp2; have r9 := R9; have g0 := RowAt.cell r9 (i := 0) rfl; have g1 := RowAt.cell r9 (i := 1) rfl; have g2 := RowAt.cell r9 (i := 2) rfl; have g3 := RowAt.cell r9 (i := 3) rfl; have g4 := RowAt.cell r9 (i := 4) rfl; refine bodyPost_ret (v := rwV (rL (.slice (some ⟨w6.heap.size, 0, none⟩) 2 2))) (by simp [results, Tryz.results133, go_sem, g0, g1, g2, g3, g4]) rfl ?_; refine ⟨D9, _, rfl, itL (its2 (itU _ _ 2 (by decide)) (itL (its2 (itU _ _ n (by omega)) (itU _ _ m (by omega))) I9 ⟨by omega, RowAt.lt I9⟩ (by show 2 ≤ 1000; decide))) O9 ⟨by omega, RowAt.lt O9⟩ (by show 2 ≤ 1000; decide)⟩
def MkE (x : It) (e : Int) (w : World) (en : Ending) (w' : World) : Prop := Below w.heap.size w w' ∧ ∃ r, en = .returned (.tuple #[rwV r, .int .i64 e]) ∧ ItR (fun k => w.heap.size ≤ k ∧ k < w'.heap.size) w' x r
abbrev zI : It := .mk 0 0 [] ⟨#[]⟩ []
theorem itZ (S : Nat → Prop) (w : World) : ItR S w zI rZ := by
  unfold ItR; exact ⟨rfl, rfl, rfl, ⟨by omega, by omega⟩, ⟨Sl.nil _ _, .inl rfl⟩, [], ⟨Sl.nil _ _, .inl rfl⟩, by unfold ItsR; rfl⟩
theorem madeEI_no (n m : Nat) (e : Int) (he : e ≠ 0) (w : World) : Calls Tryz.prog 132 #[epV n m, .int .i64 e, .func (.func 133) #[] #[]] w (MkE zI e w) := by
  have hd : (e != 0) = true := by simpa using he
  clear he; have Z0 := RowAt.new (w.alloc (.cells #[.int .u32 n, .int .u32 m] 25)) (rwC rZ).toArray 62; have hB1 : Below w.heap.size w ((w.alloc (.cells #[.int .u32 n, .int .u32 m] 25)).alloc (.cells (rwC rZ).toArray 62)) := (below_alloc w _).alloc (by simp) _; simp only [World.size_alloc] at Z0; go_enter Tryz.func132, Tryz.ntmps132; go_wp2; refine bodyPost_ret (v := .tuple #[rwV rZ, .int .i64 e]) (by simp [results, Tryz.results132, go_sem]) rfl ?_; exact ⟨hB1, _, rfl, itZ _ _⟩
theorem madeEI_yes (n m : Nat) (hn : n < 4294967296) (hm : m < 4294967296) (w : World) : Calls Tryz.prog 132 #[epV n m, .int .i64 0, .func (.func 133) #[] #[]] w (MkE (epI n m) 0 w) := by
  have hent : Enters Tryz.prog 133 := enters_of Tryz.func133 (by kernel_rfl) rfl; unfold Enters at hent; have Q0 := RowAt.new w #[.int .u32 n, .int .u32 m] 25; have Z0 := RowAt.new (w.alloc (.cells #[.int .u32 n, .int .u32 m] 25)) (rwC rZ).toArray 62; have Q1 := Q0.alloc (.cells (rwC rZ).toArray 62); have hB1 : Below w.heap.size w ((w.alloc (.cells #[.int .u32 n, .int .u32 m] 25)).alloc (.cells (rwC rZ).toArray 62)) := (below_alloc w _).alloc (by simp) _; simp only [World.size_alloc] at Z0; go_enter Tryz.func132, Tryz.ntmps132
  go_wp2_with fail
  refine (itemOf_c n m hn hm _).mono ?_; rintro en w1 ⟨hb1, r1, rfl, hi1⟩; have Z1 := Z0.below hb1; have D1 := below_up hB1 hb1; have hlow := RowAt.lt Z1; obtain ⟨k1, n1, ba1, bn1, bc1, s1, la1, ln1, lc1, rfl⟩ := hi1.shape; have z0 := RowAt.cell Z1 (i := 0) rfl; have z1 := RowAt.cell Z1 (i := 1) rfl; have z2 := RowAt.cell Z1 (i := 2) rfl; have z3 := RowAt.cell Z1 (i := 3) rfl; have z4 := RowAt.cell Z1 (i := 4) rfl; have f0 := RowAt.fz Z1 0; have f1 := RowAt.fz Z1 1; have f2 := RowAt.fz Z1 2; have f3 := RowAt.fz Z1 3; have f4 := RowAt.fz Z1 4; go_wp2; obtain ⟨h5, hb5⟩ := set5 Z1 (.int .i64 k1) (.int .u64 n1) (.slice ba1 bn1 bc1) (.string s1) (.slice la1 ln1 lc1); have g0 := RowAt.cell h5 (i := 0) rfl; have g1 := RowAt.cell h5 (i := 1) rfl; have g2 := RowAt.cell h5 (i := 2) rfl; have g3 := RowAt.cell h5 (i := 3) rfl; have g4 := RowAt.cell h5 (i := 4) rfl; refine bodyPost_ret (v := .tuple #[rwV ⟨k1, n1, .slice ba1 bn1 bc1, s1, .slice la1 ln1 lc1⟩, .int .i64 0]) (by simp [results, Tryz.results132, go_sem, g0, g1, g2, g3, g4]) rfl ?_
  exact ⟨D1.trans (hb5.below (fun k e => by omega) D1.size), _, rfl, (hi1.but hb5 (fun k hk e => by have hk0 := Nat.le_trans (RowAt.lt Z0) hk.1; omega)).mono (fun k hk => ⟨by have hk0 := Nat.le_trans (RowAt.lt Z0) hk.1; omega, by have := hb5.size; omega⟩)⟩
theorem one_rwI {S : Nat → Prop} {w : World} {x : It} {r : Rw} (h : ItR S w x r) : (rwC r).all (·.oneCell') = true := by
  obtain ⟨k, n, ba, bn, bc, s, la, ln, lc, rfl⟩ := h.shape; rfl
theorem nmItem_c (n m : Nat) (hn : n < 4294967296) (hm : m < 4294967296) (w : World) : Calls Tryz.prog 113 #[epV n m] w (MkE (if Dig.chkP n m = 0 then epI n m else zI) (Dig.chkP n m) w) := by
  have Q0 := RowAt.new w #[.int .u32 n, .int .u32 m] 25; have Z0 := RowAt.new (w.alloc (.cells #[.int .u32 n, .int .u32 m] 25)) (rwC rZ).toArray 62; have Q1 := Q0.alloc (.cells (rwC rZ).toArray 62); have hB1 : Below w.heap.size w ((w.alloc (.cells #[.int .u32 n, .int .u32 m] 25)).alloc (.cells (rwC rZ).toArray 62)) := (below_alloc w _).alloc (by simp) _; simp only [World.size_alloc] at Z0; by_cases hc : Dig.chkP n m = 0
  · have HC := Lib.hid hc
    rw [if_pos hc, hc]; clear hc; go_enter Tryz.func113, Tryz.ntmps113; go_wp2; refine wp_region_pt (fun k => k = w.heap.size + 1) (.q 0 (.q 1 (.c 2 (.c 3 (.q 4 (.q 5 (.c 6 (.q 7 .done)))))))) (by kernel_rfl) (by kernel_rfl) (by kernel_rfl) (by decide) (fun _ _ d _ _ h => by cases d <;> exact h) (fun Wd hBd => ?_)
    try simp only [zq]
    have K0 := Q1.below hBd; have B0 := below_up hB1 hBd; have Zd := Z0.below hBd
    iterate 2
      refine pt_load rfl (by rfl) 25 (.tmp 1) rfl w.heap.size 0 rfl [.int .u32 n, .int .u32 m] _ (RowAt.range K0) (by omega) Tryz.underlying25 rfl (by kernel_rfl) ?_
      try simp only [zq]
    refine zc fun K hK => ?_
    go_simp; refine (check_cN n m _).mono ?_; rintro en w1 ⟨rfl, hb1⟩; rw [HC.out]; refine hK.out _ _ (But.of_below hb1) ?_; clear hK K
    try simp only [zq]
    refine zc fun K hK => ?_
    go_simp; refine (madeEI_yes n m hn hm _).mono ?_; rintro en w2 ⟨hb2, r2, rfl, hi2⟩; refine hK.out _ _ (But.of_below hb2) ?_; clear hK K
    try simp only [zq]
    refine zt rfl (by rfl) ?_; refine zt rfl (by rfl) ?_; have Z2 := Zd.below (below_up hb1 hb2); have D2 := below_up B0 (below_up hb1 hb2); refine pt_c ?_; refine pt_put_row rfl (by rfl) 62 _ _ rfl (w.heap.size + 1) (rwC r2) rfl rfl Z2 rfl (by kernel_rfl) (one_rwI hi2) rfl ?_
    try simp only [zq]
    intro w9 R9 hb9; have D9 := D2.trans (hb9.below (fun k e => by omega) D2.size); have hz := RowAt.lt (Zd.below hb1); have hz2 := B0.size; have hz3 := hb1.size; have hz9 := hb9.size; have I9 := (hi2.but hb9 (fun k hk e => by omega)).mono (S' := fun k => w.heap.size ≤ k ∧ k < w9.heap.size) (fun k hk => ⟨by omega, by omega⟩); refine zt rfl (by rfl) ?_; refine pt_done ?_; go_wp2; obtain ⟨k2, n2, ba2, bn2, bc2, s2, la2, ln2, lc2, rfl⟩ := I9.shape; have g0 := RowAt.cell R9 (i := 0) rfl; have g1 := RowAt.cell R9 (i := 1) rfl; have g2 := RowAt.cell R9 (i := 2) rfl; have g3 := RowAt.cell R9 (i := 3) rfl; have g4 := RowAt.cell R9 (i := 4) rfl; refine bodyPost_ret (v := .tuple #[rwV ⟨k2, n2, .slice ba2 bn2 bc2, s2, .slice la2 ln2 lc2⟩, .int .i64 0]) (by simp [results, Tryz.results113, go_sem, g0, g1, g2, g3, g4]) rfl ?_; exact ⟨D9, _, rfl, I9⟩
  · have h2 : Dig.chkP n m = 2 := by unfold Dig.chkP at hc ⊢; split; rfl; rename_i h; exact absurd (if_neg h) hc
    have HC := Lib.hid h2; rw [if_neg hc, h2]; clear hc h2; go_enter Tryz.func113, Tryz.ntmps113; go_wp2; refine wp_region_pt (fun k => k = w.heap.size + 1) (.q 0 (.q 1 (.c 2 (.c 3 (.q 4 (.q 5 (.c 6 (.q 7 .done)))))))) (by kernel_rfl) (by kernel_rfl) (by kernel_rfl) (by decide) (fun _ _ d _ _ h => by cases d <;> exact h) (fun Wd hBd => ?_)
    try simp only [zq]
    have K0 := Q1.below hBd; have B0 := below_up hB1 hBd; have Zd := Z0.below hBd
    iterate 2
      refine pt_load rfl (by rfl) 25 (.tmp 1) rfl w.heap.size 0 rfl [.int .u32 n, .int .u32 m] _ (RowAt.range K0) (by omega) Tryz.underlying25 rfl (by kernel_rfl) ?_
      try simp only [zq]
    refine zc fun K hK => ?_
    go_simp; refine (check_cN n m _).mono ?_; rintro en w1 ⟨rfl, hb1⟩; rw [HC.out]; refine hK.out _ _ (But.of_below hb1) ?_; clear hK K
    try simp only [zq]
    refine zc fun K hK => ?_
    go_simp; refine (madeEI_no n m 2 (by decide) _).mono ?_; rintro en w2 ⟨hb2, r2, rfl, hi2⟩; refine hK.out _ _ (But.of_below hb2) ?_; clear hK K
    try simp only [zq]
    refine zt rfl (by rfl) ?_; refine zt rfl (by rfl) ?_; have Z2 := Zd.below (below_up hb1 hb2); have D2 := below_up B0 (below_up hb1 hb2); refine pt_c ?_; refine pt_put_row rfl (by rfl) 62 _ _ rfl (w.heap.size + 1) (rwC r2) rfl rfl Z2 rfl (by kernel_rfl) (one_rwI hi2) rfl ?_
    try simp only [zq]
    intro w9 R9 hb9; have D9 := D2.trans (hb9.below (fun k e => by omega) D2.size); have hz := RowAt.lt (Zd.below hb1); have hz2 := B0.size; have hz3 := hb1.size; have hz9 := hb9.size; have I9 := (hi2.but hb9 (fun k hk e => by omega)).mono (S' := fun k => w.heap.size ≤ k ∧ k < w9.heap.size) (fun k hk => ⟨by omega, by omega⟩); refine zt rfl (by rfl) ?_; refine pt_done ?_; go_wp2; obtain ⟨k2, n2, ba2, bn2, bc2, s2, la2, ln2, lc2, rfl⟩ := I9.shape; have g0 := RowAt.cell R9 (i := 0) rfl; have g1 := RowAt.cell R9 (i := 1) rfl; have g2 := RowAt.cell R9 (i := 2) rfl; have g3 := RowAt.cell R9 (i := 3) rfl; have g4 := RowAt.cell R9 (i := 4) rfl; refine bodyPost_ret (v := .tuple #[rwV ⟨k2, n2, .slice ba2 bn2 bc2, s2, .slice la2 ln2 lc2⟩, .int .i64 2]) (by simp [results, Tryz.results113, go_sem, g0, g1, g2, g3, g4]) rfl ?_; exact ⟨D9, _, rfl, I9⟩
theorem w32 (a : Nat) : IntKind.u32.wrap (a : Int) = ((a % 4294967296 : Nat) : Int) := by rw [IntKind.wrap_u32]; omega
theorem slU_at {w : World} {v : Value} {n : Nat} {U : List Int} (h : Sl w 1 v n (uC U)) (h5 : 5 ≤ n) : ∃ b off c, v = .slice (some ⟨b, off, none⟩) n c ∧ b < w.heap.size ∧ ∀ j, j < n → ∃ x, U[j]? = some x ∧ w.cell? ⟨b, off + j, none⟩ = some (.int .u64 x) := by
  obtain ⟨hl, ⟨a, c, rfl, h0⟩ | ⟨b, off, cap, rfl, hn, hm, hc⟩⟩ := h
  · omega
  · have hU : U.length = n := by simpa using hl
    have hj : ∀ j, j < n → ∃ x, U[j]? = some x ∧ w.cell? ⟨b, off + j, none⟩ = some (.int .u64 x) := fun j hj => by
      have hx : U[j]? = some (U[j]'(by omega)) := List.getElem?_eq_getElem (by omega); exact ⟨_, hx, hc j _ (by rw [List.getElem?_map, hx]; rfl)⟩
    obtain ⟨x, _, h1⟩ := hj 0 (by omega); exact ⟨b, off, cap, rfl, World.block_lt_of_cell? w _ h1, hj⟩
abbrev five (a0 a1 a2 a3 a4 : Nat) (R : List Int) : List Int := (a0 : Int) :: (a1 : Int) :: (a2 : Int) :: (a3 : Int) :: (a4 : Int) :: R
theorem of1_c (a0 a1 a2 a3 a4 : Nat) (R : List Int) (v : Value) (n : Nat) (w : World) (hv : Sl w 1 v n (uC (five a0 a1 a2 a3 a4 R))) : Calls Tryz.prog 149 #[v] w (Ret (epV (if a0 = 2 then a1 % 4294967296 else 0) (if a0 = 2 then a2 % 4294967296 else 0)) w) := by
  have hn : 5 ≤ n := by have := hv.1; simp at this; omega
  obtain ⟨b, off, c, rfl, hb, hc⟩ := slU_at hv hn; obtain ⟨x0, e0, c0⟩ := hc 0 (by omega); obtain ⟨x1, e1, c1⟩ := hc 1 (by omega); obtain ⟨x2, e2, c2⟩ := hc 2 (by omega); simp only [List.getElem?_cons_zero, List.getElem?_cons_succ, Option.some.injEq] at e0 e1 e2; subst e0 e1 e2; simp only [Nat.add_zero] at c0
  have q00 : 0 < n := by omega
  have q0 : (0 : Int) < (n : Int) := by omega
  have q1 : (1 : Int) < (n : Int) := by omega
  have q2 : (2 : Int) < (n : Int) := by omega
  have hB1 := below_alloc w (.cells #[.int .u32 0, .int .u32 0] 25); have Z0 := RowAt.new w #[.int .u32 0, .int .u32 0] 25; have d0 := cell_up hB1 c0; have d1 := cell_up hB1 c1; have d2 := cell_up hB1 c2; have hw1 := w32 a1; have hw2 := w32 a2; clear hv hc c1 c2; by_cases h2 : a0 = 2
  · have hd : ((a0 : Int) == 2) = true := by simp [h2]
    rw [if_pos h2, if_pos h2]; obtain ⟨m1, hm1⟩ : ∃ m, a1 % 4294967296 = m := ⟨_, rfl⟩; obtain ⟨m2, hm2⟩ : ∃ m, a2 % 4294967296 = m := ⟨_, rfl⟩; rw [hm1] at hw1 ⊢; rw [hm2] at hw2 ⊢; clear h2 hm1 hm2; go_enter Tryz.func149, Tryz.ntmps149; go_wp2; refine wp_region_pt (fun k => k = w.heap.size) (.q 0 (.q 1 (.q 2 (.q 3 (.q 4 (.q 5 (.q 6 (.q 7 (.q 8 (.c 9 .done)))))))))) (by kernel_rfl) (by kernel_rfl) (by kernel_rfl) (by decide) (fun _ _ d _ _ h => by cases d <;> exact h) (fun Wd hBd => ?_)
    try simp only [zq]
    have e1 := cell_up hBd d1; have e2 := cell_up hBd d2; have Zd := Z0.below hBd; have D0 := below_up hB1 hBd; refine zt rfl (by rfl) ?_; refine zt rfl (by rfl) ?_; refine ztg rfl (by rfl) (fun w' hBw' => hBw'.cell e1 (by omega)) ?_; refine zt rfl (by rfl) ?_; refine zt rfl (by rfl) ?_; refine zt rfl (by rfl) ?_; refine ztg rfl (by rfl) (fun w' hBw' => hBw'.cell e2 (by omega)) ?_; refine zt rfl (by rfl) ?_; refine zt rfl (by rfl) ?_; refine pt_c ?_; refine pt_put_row rfl (by rfl) 25 _ _ rfl w.heap.size [.int .u32 m1, .int .u32 m2] rfl rfl Zd rfl (by kernel_rfl) rfl rfl ?_
    try simp only [zq]
    intro w9 X9 hb9; have D9 := D0.trans (hb9.below (fun k e => by omega) D0.size); have x0 := RowAt.cell X9 (i := 0) rfl; have x1 := RowAt.cell X9 (i := 1) rfl; have f0 := RowAt.fz X9 0; have f1 := RowAt.fz X9 1; refine pt_done ?_; go_wp2; have R9 := X9; have hR := (X9.set 0 (.int .u32 m1)).set 1 (.int .u32 m2); have g0 := RowAt.cell hR (i := 0) (v := .int .u32 m1) rfl; have g1 := RowAt.cell hR (i := 1) (v := .int .u32 m2) rfl; refine bodyPost_ret (v := epV m1 m2) (by simp [results, Tryz.results149, go_sem, g0, g1]) rfl ?_; exact ⟨rfl, (D9.setCell (by simp) _).setCell (by simp) _⟩
  · have hd : ((a0 : Int) == 2) = false := by simp; omega
    rw [if_neg h2, if_neg h2]; clear h2; go_enter Tryz.func149, Tryz.ntmps149; go_wp2
    go_ways
    refine bodyPost_ret (v := epV 0 0) (by simp [results, Tryz.results149, go_sem]) rfl ?_; exact ⟨rfl, hB1⟩
end Go.Proofs.YtpkonagjnfphkaaGreatDoor
