/-
  PrJ, PrV, PrR, PrX, PrU: several texts in one (bundle.py).
-/
import Derived.Test.YtpkonagjnfphkaaGreatDoorPmT39
import Derived.Test.YtpkonagjnfphkaaGreatDoorPmT04
import Derived.Test.YtpkonagjnfphkaaGreatDoorPmT17
import Derived.Test.YtpkonagjnfphkaaGreatDoorPmT15
import Derived.Test.YtpkonagjnfphkaaGreatDoorPmT29
import Derived.Test.YtpkonagjnfphkaaGreatDoorPmT14
namespace Go.Proofs.YtpkonagjnfphkaaGreatDoor
open Go.RowKit Trc Cb
set_option linter.unusedSimpArgs false
set_option linter.unusedVariables false
set_option maxHeartbeats 1000000 in
set_option maxRecDepth 100000 in
theorem prSealed0 (L : List It) (rows : List Rw) (la : Option Addr) (lc : Nat) (w : World) (hl : Sl w 5 (.slice la L.length lc) L.length (rows.flatMap rwC)) (hI : ItsR (fun j => j < w.heap.size) w L rows)
    (hs : Prm.Wr (lI L)) (hT : Tabs w) : Calls Tryz.prog 44 #[.int .i64 0, .slice la L.length lc] w (Byt (lI L) w) := by
  have D0 := below_alloc w (.cells #[.slice la L.length lc] 59)
  have c0 : (w.alloc (.cells #[.slice la L.length lc] 59)).cell? ⟨w.heap.size, 0, none⟩ = some (.slice la L.length lc) := cell_new _ _ _
  have HWD := Lib.hid (fun (W : World) => show Calls Tryz.prog 50 #[.int .i64 0] W (Ret (.tuple #[.int .i64 0, .int .i64 0]) W) from suwidth_c 0 (by decide) W)
  have HIT := Lib.hid (it_list hl hI)
  have HS := Lib.hid hs
  have HT := Lib.hid hT
  clear hl hI hs hT
  go_enter Tryz.func44, Tryz.ntmps44
  go_wp2_with (first
    | (go_at_call 50; refine (HWD.out _).mono ?_; rintro en w1 ⟨rfl, hb1⟩; have D1 := below_up D0 hb1; have c1 := cell_up hb1 c0)
    | (go_at_call 86; refine (prList_c _ _ _ _).mono ?_; rintro en w2 ⟨rfl, hb2⟩; have D2 := below_up D1 hb2)
    | (go_at_call 89; refine (prWritten_c (fun k => k < w2.heap.size) _ _ w2 ((HIT.out.up D2).mono (fun k e => Nat.lt_of_lt_of_le e D2.size)) HS.out.n HS.out.k (HT.out.up D2) (fun k hk => hk) HS.out.c).mono ?_; rintro en w3 ⟨v3, rfl, ho3, hb3⟩))
  go_ret
  exact ⟨_, rfl, own_down ho3 D2.size, below_up D2 hb3⟩
theorem prSealed_c (k : Nat) (hk : k ≤ 2) (L : List It) (rows : List Rw) (la : Option Addr) (lc : Nat) (w : World) (hl : Sl w 5 (.slice la L.length lc) L.length (rows.flatMap rwC)) (hI : ItsR (fun j => j < w.heap.size) w L rows) (hL : L.length ≤ 100000)
    (hz : Prm.Wr (Prm.zeroIt k L)) (hs : Prm.Wr (Prm.sealIt k L)) (hT : Tabs w) : Calls Tryz.prog 44 #[.int .i64 k, .slice la L.length lc] w (Byt (Prm.sealIt k L) w) := by
  rcases (show k = 0 ∨ k = 1 ∨ k = 2 by omega) with rfl | rfl | rfl
  · exact prSealed0 L rows la lc w hl hI hs hT
  · exact prSealed1 L rows la lc w hl hI hL hz hs hT
  · exact prSealed2 L rows la lc w hl hI hL hz hs hT
def prGs : List FuncId := [75, 77, 79, 81, 83, 84, 85, 88]
theorem prParts_c (w : World) : Calls Tryz.prog 43 #[] w (Ret (.agg #[.func (.func 75) #[] #[], .func (.func 77) #[] #[], .func (.func 79) #[] #[], .func (.func 81) #[] #[], .func (.func 83) #[] #[], .func (.func 84) #[] #[], .func (.func 85) #[] #[], .func (.func 88) #[] #[]]) w) := by
  go_enter Tryz.func43, Tryz.ntmps43
  go_wp2
  refine bodyPost_ret (v := .agg #[.func (.func 75) #[] #[], .func (.func 77) #[] #[], .func (.func 79) #[] #[], .func (.func 81) #[] #[], .func (.func 83) #[] #[], .func (.func 84) #[] #[], .func (.func 85) #[] #[], .func (.func 88) #[] #[]]) (by simp [results, Tryz.results43, go_sem]) rfl ?_
  exact ⟨rfl, below_alloc _ _⟩
theorem enters_prPart1 : Enters Tryz.prog 75 := enters_of Tryz.func75 (by kernel_rfl) rfl
theorem enters_prPart2 : Enters Tryz.prog 77 := enters_of Tryz.func77 (by kernel_rfl) rfl
theorem enters_prPart3 : Enters Tryz.prog 79 := enters_of Tryz.func79 (by kernel_rfl) rfl
theorem enters_prPart4 : Enters Tryz.prog 81 := enters_of Tryz.func81 (by kernel_rfl) rfl
theorem enters_prPart5 : Enters Tryz.prog 83 := enters_of Tryz.func83 (by kernel_rfl) rfl
theorem enters_prPart6 : Enters Tryz.prog 84 := enters_of Tryz.func84 (by kernel_rfl) rfl
theorem enters_prPart7 : Enters Tryz.prog 85 := enters_of Tryz.func85 (by kernel_rfl) rfl
theorem enters_prPart8 : Enters Tryz.prog 88 := enters_of Tryz.func88 (by kernel_rfl) rfl
theorem prGs_enter : ∀ g ∈ prGs, Enters Tryz.prog g := by
  intro g hg
  simp only [prGs, List.mem_cons, List.not_mem_nil, or_false] at hg
  rcases hg with rfl | rfl | rfl | rfl | rfl | rfl | rfl | rfl
  · exact enters_prPart1
  · exact enters_prPart2
  · exact enters_prPart3
  · exact enters_prPart4
  · exact enters_prPart5
  · exact enters_prPart6
  · exact enters_prPart7
  · exact enters_prPart8
theorem prGs_call (p : Prm.Pr) (hp : p.Ok) (hk : Prm.okPr p = true) (i : Nat) (hi : i < prGs.length) (hi' : i < (Prm.prL p).length) (w1 : World) : Calls Tryz.prog prGs[i] #[prV p] w1 (MadeE (Prm.prL p)[i] w1) := by
  have h8 : i < 8 := hi
  rcases (show i = 0 ∨ i = 1 ∨ i = 2 ∨ i = 3 ∨ i = 4 ∨ i = 5 ∨ i = 6 ∨ i = 7 by omega) with rfl | rfl | rfl | rfl | rfl | rfl | rfl | rfl
  · exact prPart1_c p hp hk w1
  · exact prPart2_c p hp hk w1
  · exact prPart3_c p hp hk w1
  · exact prPart4_c p hp hk w1
  · exact prPart5_c p hp hk w1
  · exact prPart6_c p hp hk w1
  · exact prPart7_c p hp w1
  · exact prPart8_c p hp hk w1
theorem enters_prEnc1 : Enters Tryz.prog 41 := enters_of Tryz.func41 (by kernel_rfl) rfl
theorem enters_prCaught : Enters Tryz.prog 40 := enters_of Tryz.func40 (by kernel_rfl) rfl
theorem prEnc1_c (o : Nat) (v : Value) (w : World) (hc : w.cell? ⟨o, 0, none⟩ = some v) (hz : w.frozen? ⟨o, 0, none⟩ = false) : Calls Tryz.prog 41 #[.pointer (some ⟨o, 0, none⟩)] w fun en w' => en = .returned (.tuple #[]) ∧ w' = w.setCell ⟨o, 0, none⟩ (.slice none 0 0) := by
  go_enter Tryz.func41, Tryz.ntmps41
  go_wp2
  go_end0
  exact ⟨rfl, rfl⟩
set_option maxRecDepth 100000 in
/-- The door, where something was given up. -/
theorem prEnc_door {R : Ending → World → Prop} (O E : Nat) (e : Int) (v : Value) (W : World) (hO : RowAt W O #[v] 48) (hE : RowAt W E #[.int .i64 0] 33) (hne : O ≠ E) (u0 u1 u4 u5 u6 u7 u8 u9 u10 u11 u12 u13 u14 u15 u16 : Value)
    (hR : ∀ W', But (fun k => k = O ∨ k = E) W W' → R (.returned (.tuple #[.slice none 0 0, .int .i64 e])) W') :
    Leaves Tryz.prog Tryz.f22 #[u0, u1, .pointer (some ⟨O, 0, none⟩), .pointer (some ⟨E, 0, none⟩), u4, u5, u6, u7, u8, u9, u10, u11, u12, u13, u14, u15, u16] R [{ target := .fn (.func 40) #[], args := #[.pointer (some ⟨E, 0, none⟩), .func (.func 41) #[] #[.pointer (some ⟨O, 0, none⟩)]] }] (.panicking (gup e)) W := by
  have c0 := hE.cell (i := 0) rfl
  have f0 := hE.fz 0
  have b1 : But (fun k => k = O ∨ k = E) W (W.setCell ⟨E, 0, none⟩ (.int .i64 e)) := But.setCell _ _ _ (.inl (.inr rfl))
  have hO1 : RowAt (W.setCell ⟨E, 0, none⟩ (.int .i64 e)) O #[v] 48 := ((But.setCell (O := fun k => k = E) W ⟨E, 0, none⟩ (.int .i64 e) (.inl rfl)).same _ hO.lt hne).trans hO
  have hE1 := hE.set 0 (.int .i64 e)
  have b2 : But (fun k => k = O ∨ k = E) (W.setCell ⟨E, 0, none⟩ (.int .i64 e)) ((W.setCell ⟨E, 0, none⟩ (.int .i64 e)).setCell ⟨O, 0, none⟩ (.slice none 0 0)) := But.setCell _ _ _ (.inl (.inl rfl))
  have hO2 := hO1.set 0 (.slice none 0 0)
  have hE2 : RowAt ((W.setCell ⟨E, 0, none⟩ (.int .i64 e)).setCell ⟨O, 0, none⟩ (.slice none 0 0)) E _ _ := ((But.setCell (O := fun k => k = O) (W.setCell ⟨E, 0, none⟩ (.int .i64 e)) ⟨O, 0, none⟩ (.slice none 0 0) (.inl rfl)).same _ hE1.lt (fun h => hne h.symm)).trans hE1
  have r1 := hO2.cell (i := 0) rfl
  have r2 := hE2.cell (i := 0) rfl
  have hfin := hR _ (b1.trans b2)
  refine leaves_cons (f := 40) (args := #[.pointer (some ⟨E, 0, none⟩), .func (.func 41) #[] #[.pointer (some ⟨O, 0, none⟩)]]) (by simp) (by have := enters_prCaught; unfold Enters at this; simp [go_sem, invoke, this]) ?_
  refine (prCaught_gup E e 0 41 #[.pointer (some ⟨O, 0, none⟩)] enters_prEnc1 W c0 f0 (prEnc1_c O v _ (hO1.cell (i := 0) rfl) (hO1.fz 0))).mono ?_
  rintro en u' w'' ⟨rfl, rfl, rfl⟩
  simpa [Leaves, settle, results, Tryz.results22, go_sem, r1, r2] using hfin
/-- What primary.Encode tells. -/
def PEncE (p : Prm.Pr) (w : World) (en : Ending) (w' : World) : Prop := Below w.heap.size w w' ∧ (Prm.okPr p = true → ∃ v, en = .returned (.tuple #[v, .int .i64 0]) ∧ w'.ownsRow w.heap.size 5 1 v (Prm.encPr p).length (by8 (Prm.encPr p))) ∧ (Prm.okPr p = false → en = .returned (.tuple #[.slice none 0 0, .int .i64 2]))
set_option maxHeartbeats 4000000 in
set_option maxRecDepth 100000 in
theorem prEncode_c (p : Prm.Pr) (hp : p.Ok) (w : World) (hT : Tabs w) : Calls Tryz.prog 22 #[prV p] w (PEncE p w) := by
  have hmf : ∀ (fn : Fn) (first cap : Array Value) (w : World), (Instr.makeFunc fn first cap).run Tryz.prog w = .ok (.func fn first cap) w := fun _ _ _ _ => rfl
  obtain ⟨W0, hW0⟩ : ∃ W0, ((w.alloc (.cells (prC p).toArray 28)).alloc (.cells #[.slice none 0 0] 48)).alloc (.cells #[.int .i64 0] 33) = W0 := ⟨_, rfl⟩
  have X0 : RowAt W0 w.heap.size (prC p).toArray 28 := by rw [← hW0]; exact ((RowAt.new w _ _).below (below_alloc _ _)).below (below_alloc _ _)
  have XO : RowAt W0 (w.heap.size + 1) #[.slice none 0 0] 48 := by
    have h := (RowAt.new (w.alloc (.cells (prC p).toArray 28)) #[.slice none 0 0] 48).below (below_alloc _ (.cells #[.int .i64 0] 33))
    rw [hW0, World.size_alloc] at h; exact h
  have XE : RowAt W0 (w.heap.size + 1 + 1) #[.int .i64 0] 33 := by
    have h := RowAt.new ((w.alloc (.cells (prC p).toArray 28)).alloc (.cells #[.slice none 0 0] 48)) #[.int .i64 0] 33
    rw [hW0, World.size_alloc, World.size_alloc] at h; exact h
  have hB0 : Below w.heap.size w W0 := by rw [← hW0]; exact ((below_alloc w _).alloc (by simp) _).alloc (by simp; omega) _
  have hz0 : W0.heap.size = w.heap.size + 3 := by rw [← hW0]; simp
  have hck := prCheck_c p hp W0
  have x0 := X0.cell (i := 0) rfl
  have x1 := X0.cell (i := 1) rfl
  have x2 := X0.cell (i := 2) rfl
  have x3 := X0.cell (i := 3) rfl
  have x4 := X0.cell (i := 4) rfl
  have x5 := X0.cell (i := 5) rfl
  have x6 := X0.cell (i := 6) rfl
  have x7 := X0.cell (i := 7) rfl
  have x8 := X0.cell (i := 8) rfl
  have x9 := X0.cell (i := 9) rfl
  have x10 := X0.cell (i := 10) rfl
  by_cases hk : Prm.okPr p = true
  · obtain ⟨hkf, hks, hkt, hkr, hktm, hkl⟩ := Prm.okPr_parts hk
    obtain ⟨k, hkS⟩ : ∃ k : Nat, (k : Int) = p.sum := ⟨p.sum.toNat, by omega⟩
    have hk2 : k ≤ 2 := by omega
    have hkn : p.sum.toNat = k := by omega
    have h1 := Prm.chk_zeroPr hp hks.1 k
    have h2 := Prm.chk_sealPr hp hks.1 k
    have HWZ := Lib.hid (show Prm.Wr (Prm.zeroIt k (Prm.prL p)) from ⟨h1.1, by omega, h1.2.1.k⟩)
    have HWS := Lib.hid (show Prm.Wr (Prm.sealIt k (Prm.prL p)) from ⟨h2.1, by omega, h2.2.1.k⟩)
    have HEN := Lib.hid (show Prm.encPr p = bytesOf (Prm.sealIt k (Prm.prL p)) by unfold Prm.encPr; rw [hkn])
    rw [hk] at hck
    have HK := Lib.hid hk
    have HP := Lib.hid hp
    have HCK := Lib.hid hck
    have HX0 := Lib.hid X0
    have HXO := Lib.hid XO
    have HXE := Lib.hid XE
    have HB0 := Lib.hid hB0
    have HZ0 := Lib.hid hz0
    have HT := Lib.hid hT
    have HKS := Lib.hid hkS
    have HK2 := Lib.hid hk2
    clear hk hp hck X0 XO XE hB0 hz0 hT hkf hks hkt hkr hktm hkl h1 h2 hkn hkS hk2
    go_enter_defers Tryz.func22, Tryz.ntmps22
    go_wp2_with (first
      | (go_at_call 23; refine HCK.out.mono ?_; rintro en w1 ⟨rfl, hb1⟩)
      | (go_at_call 42; with_reducible refine (prMust_yes _ _).mono ?_; rintro en wn ⟨rfl, rfl⟩)
      | (go_at_call 43; refine (prParts_c _).mono ?_; rintro en w3 ⟨rfl, hb3⟩))
    have D3 := below_up hb1 hb3
    have D4 := below_up D3 (below_alloc w3 (.cells #[.func (.func 75) #[] #[], .func (.func 77) #[] #[], .func (.func 79) #[] #[], .func (.func 81) #[] #[], .func (.func 83) #[] #[], .func (.func 84) #[] #[], .func (.func 85) #[] #[], .func (.func 88) #[] #[]] 82))
    have A4 := RowAt.new w3 #[.func (.func 75) #[] #[], .func (.func 77) #[] #[], .func (.func 79) #[] #[], .func (.func 81) #[] #[], .func (.func 83) #[] #[], .func (.func 84) #[] #[], .func (.func 85) #[] #[], .func (.func 88) #[] #[]] 82
    refine wp_onlyN (wp_region_pt (fun j => j = w.heap.size + 1 ∨ j = w.heap.size + 1 + 1) (.q 0 (.q 1 (.q 2 (.q 3 (.c 4 (.c 5 (.c 6 (.c 7 .done)))))))) (by kernel_rfl) (by kernel_rfl) (by kernel_rfl) (by decide) onlyN_panic (fun Wd hBd => ?_))
    try simp only [Act.put, List.getElem_toArray, List.getElem_cons_zero, List.getElem_cons_succ, List.setIfInBounds_toArray, List.set_cons_zero, List.set_cons_succ]
    have D5 := below_up D4 hBd
    have A5 := A4.below hBd
    have X5 := HX0.out.below D5
    have x1' := X5.cell (i := 1) (v := .int .i64 (k : Int)) (by rw [HKS.out]; rfl)
    have hsl : Sl Wd 1 (.slice (some ⟨w3.heap.size, 0, none⟩) 8 8) 8 (prGs.flatMap prFn) := ⟨rfl, .inr ⟨w3.heap.size, 0, 8, rfl, Nat.le_refl _, by decide, fun j u hj => by rw [Nat.zero_add]; exact A5.cell (by simpa [prGs] using hj)⟩⟩
    refine pt_q (v := ?_) rfl (by rfl) ?_ ?_
    rotate_left
    · intro w' hBw'
      first | (go_simp; done) | (go_simp; with_reducible rfl)
    try simp only [Act.put, List.getElem_toArray, List.getElem_cons_zero, List.getElem_cons_succ, List.setIfInBounds_toArray, List.set_cons_zero, List.set_cons_succ]
    refine pt_q (v := ?_) rfl (by rfl) ?_ ?_
    rotate_left
    · intro w' hBw'
      have qL := hBw'.cell x1' (by omega)
      first | (go_simp; done) | (go_simp; with_reducible rfl)
    iterate 2
      try simp only [Act.put, List.getElem_toArray, List.getElem_cons_zero, List.getElem_cons_succ, List.setIfInBounds_toArray, List.set_cons_zero, List.set_cons_succ]
      refine pt_q (v := ?_) rfl (by rfl) ?_ ?_
      rotate_left
      · intro w' hBw'
        first | (go_simp; done) | (go_simp; with_reducible rfl)
    try simp only [Act.put, List.getElem_toArray, List.getElem_cons_zero, List.getElem_cons_succ, List.setIfInBounds_toArray, List.set_cons_zero, List.set_cons_succ]
    refine pt_c ?_
    refine pt_step rfl (by rfl) (fun K hK => ?_)
    go_simp
    refine (prMade_c p (Prm.prL p) prGs w.heap.size _ 8 _ hsl rfl (by decide) X5 prGs_enter (prGs_call p HP.out HK.out)).mono ?_
    rintro en w6 ⟨v6, rows, rfl, ho6, hi6, hb6⟩
    obtain ⟨p6, c6, rfl⟩ := own_slice ho6
    refine hK.out _ _ (But.of_below hb6) ?_
    clear hK K
    try simp only [Act.put, List.getElem_toArray, List.getElem_cons_zero, List.getElem_cons_succ, List.setIfInBounds_toArray, List.set_cons_zero, List.set_cons_succ]
    refine pt_c ?_
    refine pt_step rfl (by rfl) (fun K hK => ?_)
    go_simp
    have D6 := below_up D5 hb6
    refine (prSealed_c k HK2.out (Prm.prL p) rows p6 c6 w6 (Sl.of_own ho6) (hi6.monoP (fun j e => e.2)) (by show 8 ≤ 100000; decide) HWZ.out HWS.out ((HT.out.up HB0.out).up D6)).mono ?_
    rintro en w7 ⟨v7, rfl, ho7, hb7⟩
    obtain ⟨p7, c7, rfl⟩ := own_slice ho7
    refine hK.out _ _ (But.of_below hb7) ?_
    clear hK K
    try simp only [Act.put, List.getElem_toArray, List.getElem_cons_zero, List.getElem_cons_succ, List.setIfInBounds_toArray, List.set_cons_zero, List.set_cons_succ]
    have D7 := below_up D6 hb7
    have zo := (HXO.out.below D7).cell (i := 0) rfl
    have fo := (HXO.out.below D7).fz 0
    have ze := (HXE.out.below D7).cell (i := 0) rfl
    have fe := (HXE.out.below D7).fz 0
    refine pt_c ?_
    refine pt_step rfl (by rfl) (fun K hK => ?_)
    go_simp
    refine hK.out _ _ (But.setCell _ _ _ (.inl (.inl rfl))) ?_
    clear hK K
    try simp only [Act.put, List.getElem_toArray, List.getElem_cons_zero, List.getElem_cons_succ, List.setIfInBounds_toArray, List.set_cons_zero, List.set_cons_succ]
    refine pt_c ?_
    refine pt_step rfl (by rfl) (fun K hK => ?_)
    go_simp
    refine hK.out _ _ (But.setCell _ _ _ (.inl (.inr rfl))) ?_
    clear hK K
    try simp only [Act.put, List.getElem_toArray, List.getElem_cons_zero, List.getElem_cons_succ, List.setIfInBounds_toArray, List.set_cons_zero, List.set_cons_succ]
    refine pt_doneN ?_
    have HDD := Lib.hid D7
    have hO6 := HXO.out.below D7
    have hE6 := HXE.out.below D7
    have ho8 := ho7
    have HH := Lib.hid (And.intro hO6 (And.intro hE6 ho8))
    clear hO6 hE6 ho8 ho7
    go_wp2
    obtain ⟨hO6, hE6, ho8⟩ := HH.out
    have s1' : But (fun j => j = w.heap.size + 1 ∨ j = w.heap.size + 1 + 1) w7 (w7.setCell ⟨w.heap.size + 1, 0, none⟩ (.slice p7 (bytesOf (Prm.sealIt k (Prm.prL p))).length c7)) := But.setCell _ _ _ (.inl (.inl rfl))
    have s2' : But (fun j => j = w.heap.size + 1 ∨ j = w.heap.size + 1 + 1) _ ((w7.setCell ⟨w.heap.size + 1, 0, none⟩ (.slice p7 (bytesOf (Prm.sealIt k (Prm.prL p))).length c7)).setCell ⟨w.heap.size + 1 + 1, 0, none⟩ (.int .i64 0)) := But.setCell _ _ _ (.inl (.inr rfl))
    have hO7 := hO6.set 0 (.slice p7 (bytesOf (Prm.sealIt k (Prm.prL p))).length c7)
    have hO8 : RowAt ((w7.setCell ⟨w.heap.size + 1, 0, none⟩ (.slice p7 (bytesOf (Prm.sealIt k (Prm.prL p))).length c7)).setCell ⟨w.heap.size + 1 + 1, 0, none⟩ (.int .i64 0)) (w.heap.size + 1) _ _ := ((But.setCell (O := fun j => j = w.heap.size + 1 + 1) _ ⟨w.heap.size + 1 + 1, 0, none⟩ (.int .i64 0) (.inl rfl)).same _ hO7.lt (by omega)).trans hO7
    have hE7 : RowAt (w7.setCell ⟨w.heap.size + 1, 0, none⟩ (.slice p7 (bytesOf (Prm.sealIt k (Prm.prL p))).length c7)) (w.heap.size + 1 + 1) _ _ := ((But.setCell (O := fun j => j = w.heap.size + 1) w7 ⟨w.heap.size + 1, 0, none⟩ (.slice p7 (bytesOf (Prm.sealIt k (Prm.prL p))).length c7) (.inl rfl)).same _ hE6.lt (by omega)).trans hE6
    have hE8 := hE7.set 0 (.int .i64 0)
    have r1 := hO8.cell (i := 0) rfl
    have r2 := hE8.cell (i := 0) rfl
    have hbw := below_up HB0.out HDD.out
    have hfin : PEncE p w (.returned (.tuple #[.slice p7 (bytesOf (Prm.sealIt k (Prm.prL p))).length c7, .int .i64 0])) ((w7.setCell ⟨w.heap.size + 1, 0, none⟩ (.slice p7 (bytesOf (Prm.sealIt k (Prm.prL p))).length c7)).setCell ⟨w.heap.size + 1 + 1, 0, none⟩ (.int .i64 0)) := by
      refine ⟨hbw.trans ((s1'.trans s2').below (fun j e => by omega) hbw.size), fun _ => ⟨_, rfl, ?_⟩, fun h => absurd HK.out (by rw [h]; decide)⟩
      rw [HEN.out]
      have hs6 : w.heap.size + 3 ≤ w6.heap.size := by have h1 := D6.size; have h2 := HZ0.out; omega
      exact own_down (own_but ho8 (s1'.trans s2') (fun j hj h => by have := (own_of_some ho8 hj).1; omega)) (by omega)
    refine (show Leaves Tryz.prog Tryz.f22 _ (PEncE p w) _ .returning _ from ?_)
    refine leaves_cons (f := 40) (args := #[.pointer (some ⟨w.heap.size + 1 + 1, 0, none⟩), .func (.func 41) #[] #[.pointer (some ⟨w.heap.size + 1, 0, none⟩)]]) (by simp) (by have := enters_prCaught; unfold Enters at this; simp [go_sem, invoke, this]) ?_
    refine (prCaught_idle ⟨w.heap.size + 1 + 1, 0, none⟩ 41 #[.pointer (some ⟨w.heap.size + 1, 0, none⟩)] _).mono ?_
    rintro en u' w'' ⟨rfl, rfl, rfl⟩
    simpa [Leaves, settle, results, Tryz.results22, go_sem, r1, r2] using hfin
  · have hkf : Prm.okPr p = false := by simpa using hk
    rw [hkf] at hck
    have HK := Lib.hid hkf
    have HCK := Lib.hid hck
    have HXO := Lib.hid XO
    have HXE := Lib.hid XE
    have HB0 := Lib.hid hB0
    clear hk hp hck X0 XO XE hB0 hz0 hT hkf
    go_enter_defers Tryz.func22, Tryz.ntmps22
    go_wp2_with (first
      | (go_at_call 23; refine HCK.out.mono ?_; rintro en w1 ⟨rfl, hb1⟩)
      | (go_at_call 42; with_reducible refine (prMust_no _ _).mono ?_; rintro en wn ⟨rfl, rfl⟩))
    refine prEnc_door _ _ 2 _ w1 (HXO.out.below hb1) (HXE.out.below hb1) (by omega) _ _ _ _ _ _ _ _ _ _ _ _ _ _ _ (fun W' hb => ⟨?_, (fun h => by rw [HK.out] at h; cases h), fun _ => rfl⟩)
    exact (below_up HB0.out hb1).trans (hb.below (fun k e => by omega) (below_up HB0.out hb1).size)
end Go.Proofs.YtpkonagjnfphkaaGreatDoor

namespace Go.Proofs.YtpkonagjnfphkaaGreatDoor
open Go.RowKit Trc Cb
set_option linter.unusedSimpArgs false
set_option linter.unusedVariables false
def Prm.p2 : Prm.Pr := ⟨0, 0, 0, 0, 1, 0, 0, 0, 5, 6, 7⟩
def Prm.p3 : Prm.Pr := ⟨384, 0, 2, 0, 1, 0, 0, 0, 5, 6, 7⟩
def Prm.p4 : Prm.Pr := ⟨256, 0, 0, 0, 0, 0, 0, 0, 0, 0, 0⟩
theorem Prm.p1_ok : Prm.p1.Ok := by constructor <;> decide
theorem Prm.p2_ok : Prm.p2.Ok := by constructor <;> decide
theorem Prm.p3_ok : Prm.p3.Ok := by constructor <;> decide
theorem Prm.p1_okPr : Prm.okPr Prm.p1 = true := by decide
theorem Prm.p2_okPr : Prm.okPr Prm.p2 = false := by decide
theorem Prm.p3_okPr : Prm.okPr Prm.p3 = false := by decide
set_option maxRecDepth 100000 in
theorem Prm.p1_enc : Prm.encPr Prm.p1 = [136, 7, 0, 0, 130, 2, 130, 2, 0, 130, 2, 130, 1, 0, 130, 1, 0, 130, 5, 6, 7] := by decide
theorem Prm.wk_flags : Prm.flagsN 1 [2, 2] = 130 := by decide
theorem Prm.wk_rank : Prm.rankN 256 = 2 := by decide
theorem Prm.wk_exp : Clk.addF (5 : Nat) (7 : Nat) = 12 := by decide
set_option maxHeartbeats 4000000 in
set_option maxRecDepth 100000 in
theorem prWorks_c (w : World) (hT : Tabs w) : Calls Tryz.prog 8 #[] w (Ret (.bool true) w) := by
  have HT := Lib.hid hT
  clear hT
  go_enter Tryz.func8, Tryz.ntmps8
  go_wp2_with fail
  refine (prFirst_c _).mono ?_
  rintro en w1 ⟨rfl, hb1⟩
  have B1 : Below w.heap.size w w1 := hb1
  have X1 : RowAt (w1.alloc (.cells (prC Prm.p1).toArray 28)) w1.heap.size #[.int .u32 0, .int .i64 0, .int .u32 2, .int .u32 0, .int .u32 1, .int .u32 0, .int .u32 0, .int .u32 0, .int .u64 5, .int .u32 6, .int .u64 7] 28 := RowAt.new w1 (prC Prm.p1).toArray 28
  have B1b := B1.alloc B1.size (.cells (prC Prm.p1).toArray 28)
  have HS := Lib.hid B1.size
  go_wp2_with fail
  have hen := prEncode_c Prm.p1 Prm.p1_ok _ (HT.out.up B1b)
  refine hen.mono ?_
  clear hen
  rintro en w2 ⟨hb2, hy2, _⟩
  obtain ⟨v2, rfl, ho2⟩ := hy2 Prm.p1_okPr
  clear hy2
  rw [Prm.p1_enc] at ho2
  obtain ⟨q2, c2, rfl⟩ := own_slice ho2
  have S2 := Lib.hid (Sl.of_own ho2)
  have HOB := Lib.hid (fun (k : Nat) (hk : (Value.slice q2 21 c2).ownBlock = some k) => (show w1.heap.size < k from by have h := (own_of_some ho2 hk).1; rw [World.size_alloc] at h; omega))
  have B2 := below_up B1b hb2
  have X2 := X1.below hb2
  clear X1 B1b hb1 hb2 ho2
  have x0 := X2.cell (i := 0) rfl
  have x1 := X2.cell (i := 1) rfl
  have x2 := X2.cell (i := 2) rfl
  have x3 := X2.cell (i := 3) rfl
  have x4 := X2.cell (i := 4) rfl
  have x5 := X2.cell (i := 5) rfl
  have x6 := X2.cell (i := 6) rfl
  have x7 := X2.cell (i := 7) rfl
  have x8 := X2.cell (i := 8) rfl
  have x9 := X2.cell (i := 9) rfl
  have x10 := X2.cell (i := 10) rfl
  have f2 := X2.fz 2
  have f3 := X2.fz 3
  go_wp2_with fail
  clear x0 x1 x2 x3 x4 x5 x6 x7 x8 x9 x10 f2 f3
  have h1 := X2.set 2 (.int .u32 0)
  have h2 : RowAt ((w2.setCell ⟨w1.heap.size, 2, none⟩ (.int .u32 0)).setCell ⟨w1.heap.size, 3, none⟩ (.int .u32 0)) w1.heap.size #[.int .u32 0, .int .i64 0, .int .u32 0, .int .u32 0, .int .u32 1, .int .u32 0, .int .u32 0, .int .u32 0, .int .u64 5, .int .u32 6, .int .u64 7] 28 := h1.set 3 (.int .u32 0)
  have b2 : But (fun j => j = w1.heap.size) w2 ((w2.setCell ⟨w1.heap.size, 2, none⟩ (.int .u32 0)).setCell ⟨w1.heap.size, 3, none⟩ (.int .u32 0)) := (But.setCell (O := fun j => j = w1.heap.size) _ ⟨w1.heap.size, 2, none⟩ _ (.inl rfl)).trans (But.setCell _ _ _ (.inl rfl))
  have B3 := B2.trans (b2.below (fun j e => by have := HS.out; omega) B2.size)
  replace S2 := Lib.hid (S2.out.but b2 (.inr fun k hk e => by have h := HOB.out k hk; omega))
  obtain ⟨w3, hw3⟩ : ∃ X, (w2.setCell ⟨w1.heap.size, 2, none⟩ (.int .u32 0)).setCell ⟨w1.heap.size, 3, none⟩ (.int .u32 0) = X := ⟨_, rfl⟩
  rw [hw3] at h2 B3 S2 ⊢
  clear h1 b2 hw3 X2 B2
  refine ((show Calls Tryz.prog 23 #[prV Prm.p2] w3 (Ret (.int .i64 2) w3) from by have h := prCheck_c Prm.p2 Prm.p2_ok w3; rw [Prm.p2_okPr] at h; exact h)).mono ?_
  rintro en w4 ⟨rfl, hb4⟩
  have X4 := h2.below hb4
  have B4 := below_up B3 hb4
  replace S2 := Lib.hid (S2.out.up hb4)
  clear h2 B3 hb4
  go_wp2_with fail
  refine (prFirst_c _).mono ?_
  rintro en w5 ⟨rfl, hb5⟩
  have X5 := X4.below hb5
  have B5 := below_up B4 hb5
  replace S2 := Lib.hid (S2.out.up hb5)
  clear X4 B4 hb5
  have x0 := X5.cell (i := 0) rfl
  have x1 := X5.cell (i := 1) rfl
  have x2 := X5.cell (i := 2) rfl
  have x3 := X5.cell (i := 3) rfl
  have x4 := X5.cell (i := 4) rfl
  have x5 := X5.cell (i := 5) rfl
  have x6 := X5.cell (i := 6) rfl
  have x7 := X5.cell (i := 7) rfl
  have x8 := X5.cell (i := 8) rfl
  have x9 := X5.cell (i := 9) rfl
  have x10 := X5.cell (i := 10) rfl
  have f0 := X5.fz 0
  have f1 := X5.fz 1
  have f2 := X5.fz 2
  have f3 := X5.fz 3
  have f4 := X5.fz 4
  have f5 := X5.fz 5
  have f6 := X5.fz 6
  have f7 := X5.fz 7
  have f8 := X5.fz 8
  have f9 := X5.fz 9
  have f10 := X5.fz 10
  go_wp2_with fail
  clear x0 x1 x2 x3 x4 x5 x6 x7 x8 x9 x10 f0 f1 f2 f3 f4 f5 f6 f7 f8 f9 f10
  obtain ⟨h1, b1⟩ := row11 X5 (.int .u32 (Prm.p1.flags : Nat)) (.int .i64 (Prm.p1.sum)) (.int .u32 (Prm.p1.toN : Nat)) (.int .u32 (Prm.p1.toS : Nat)) (.int .u32 (Prm.p1.srN : Nat)) (.int .u32 (Prm.p1.srS : Nat)) (.int .u32 (Prm.p1.rpN : Nat)) (.int .u32 (Prm.p1.rpS : Nat)) (.int .u64 (Prm.p1.time : Nat)) (.int .u32 (Prm.p1.seq : Nat)) (.int .u64 (Prm.p1.life : Nat))
  have h2 : RowAt ((((((((((((w5.setCell ⟨w1.heap.size, 0, none⟩ (.int .u32 (Prm.p1.flags : Nat))).setCell ⟨w1.heap.size, 1, none⟩ (.int .i64 (Prm.p1.sum))).setCell ⟨w1.heap.size, 2, none⟩ (.int .u32 (Prm.p1.toN : Nat))).setCell ⟨w1.heap.size, 3, none⟩ (.int .u32 (Prm.p1.toS : Nat))).setCell ⟨w1.heap.size, 4, none⟩ (.int .u32 (Prm.p1.srN : Nat))).setCell ⟨w1.heap.size, 5, none⟩ (.int .u32 (Prm.p1.srS : Nat))).setCell ⟨w1.heap.size, 6, none⟩ (.int .u32 (Prm.p1.rpN : Nat))).setCell ⟨w1.heap.size, 7, none⟩ (.int .u32 (Prm.p1.rpS : Nat))).setCell ⟨w1.heap.size, 8, none⟩ (.int .u64 (Prm.p1.time : Nat))).setCell ⟨w1.heap.size, 9, none⟩ (.int .u32 (Prm.p1.seq : Nat))).setCell ⟨w1.heap.size, 10, none⟩ (.int .u64 (Prm.p1.life : Nat))).setCell ⟨w1.heap.size, 0, none⟩ (.int .u32 384)) w1.heap.size #[.int .u32 384, .int .i64 0, .int .u32 2, .int .u32 0, .int .u32 1, .int .u32 0, .int .u32 0, .int .u32 0, .int .u64 5, .int .u32 6, .int .u64 7] 28 := h1.set 0 (.int .u32 384)
  have b2 : But (fun j => j = w1.heap.size) w5 ((((((((((((w5.setCell ⟨w1.heap.size, 0, none⟩ (.int .u32 (Prm.p1.flags : Nat))).setCell ⟨w1.heap.size, 1, none⟩ (.int .i64 (Prm.p1.sum))).setCell ⟨w1.heap.size, 2, none⟩ (.int .u32 (Prm.p1.toN : Nat))).setCell ⟨w1.heap.size, 3, none⟩ (.int .u32 (Prm.p1.toS : Nat))).setCell ⟨w1.heap.size, 4, none⟩ (.int .u32 (Prm.p1.srN : Nat))).setCell ⟨w1.heap.size, 5, none⟩ (.int .u32 (Prm.p1.srS : Nat))).setCell ⟨w1.heap.size, 6, none⟩ (.int .u32 (Prm.p1.rpN : Nat))).setCell ⟨w1.heap.size, 7, none⟩ (.int .u32 (Prm.p1.rpS : Nat))).setCell ⟨w1.heap.size, 8, none⟩ (.int .u64 (Prm.p1.time : Nat))).setCell ⟨w1.heap.size, 9, none⟩ (.int .u32 (Prm.p1.seq : Nat))).setCell ⟨w1.heap.size, 10, none⟩ (.int .u64 (Prm.p1.life : Nat))).setCell ⟨w1.heap.size, 0, none⟩ (.int .u32 384)) := b1.trans (But.setCell _ _ _ (.inl rfl))
  have B6 := B5.trans (b2.below (fun j e => by have := HS.out; omega) B5.size)
  replace S2 := Lib.hid (S2.out.but b2 (.inr fun k hk e => by have h := HOB.out k hk; omega))
  obtain ⟨w6, hw6⟩ : ∃ X, ((((((((((((w5.setCell ⟨w1.heap.size, 0, none⟩ (.int .u32 (Prm.p1.flags : Nat))).setCell ⟨w1.heap.size, 1, none⟩ (.int .i64 (Prm.p1.sum))).setCell ⟨w1.heap.size, 2, none⟩ (.int .u32 (Prm.p1.toN : Nat))).setCell ⟨w1.heap.size, 3, none⟩ (.int .u32 (Prm.p1.toS : Nat))).setCell ⟨w1.heap.size, 4, none⟩ (.int .u32 (Prm.p1.srN : Nat))).setCell ⟨w1.heap.size, 5, none⟩ (.int .u32 (Prm.p1.srS : Nat))).setCell ⟨w1.heap.size, 6, none⟩ (.int .u32 (Prm.p1.rpN : Nat))).setCell ⟨w1.heap.size, 7, none⟩ (.int .u32 (Prm.p1.rpS : Nat))).setCell ⟨w1.heap.size, 8, none⟩ (.int .u64 (Prm.p1.time : Nat))).setCell ⟨w1.heap.size, 9, none⟩ (.int .u32 (Prm.p1.seq : Nat))).setCell ⟨w1.heap.size, 10, none⟩ (.int .u64 (Prm.p1.life : Nat))).setCell ⟨w1.heap.size, 0, none⟩ (.int .u32 384)) = X := ⟨_, rfl⟩
  rw [hw6] at h2 B6 S2 ⊢
  clear h1 b1 b2 hw6 X5 B5
  refine (prNum_c _ _).mono ?_
  rintro en wn ⟨rfl, rfl⟩
  have hcv : (convert 48 9 (.slice q2 21 c2)).run Tryz.prog w6 = .ok (.string ⟨#[136, 7, 0, 0, 130, 2, 130, 2, 0, 130, 2, 130, 1, 0, 130, 1, 0, 130, 5, 6, 7]⟩) w6 := run_str Tryz.underlying48 Tryz.underlying5 Tryz.underlying9 S2.out
  have HX := Lib.hid h2
  have HB := Lib.hid B6
  clear h2 B6
  go_wp2_with fail
  have hq := below_alloc w6 (.cells #[.int .u32 2, .int .u32 2] 22)
  have X7 := RowAt.new w6 #[.int .u32 2, .int .u32 2] 22
  have hsl : Sl (w6.alloc (.cells #[.int .u32 2, .int .u32 2] 22)) 1 (.slice (some ⟨w6.heap.size, 0, none⟩) 2 2) 2 ([2, 2].map fun q : Nat => Value.int .u32 q) := ⟨rfl, .inr ⟨w6.heap.size, 0, 2, rfl, Nat.le_refl _, by decide, fun j u hj => by rw [Nat.zero_add]; exact X7.cell (by simpa using hj)⟩⟩
  have hfl := prFlagsOf_c 1 (by decide) [2, 2] _ _ hsl (by decide)
  rw [Prm.wk_flags] at hfl
  refine hfl.mono ?_
  rintro en w7 ⟨rfl, hb7⟩
  replace HX := Lib.hid (HX.out.below (below_up hq hb7))
  replace HB := Lib.hid (below_up HB.out (below_up hq hb7))
  clear hfl hsl X7 hq hb7 hcv
  go_wp2_with fail
  refine ((show Calls Tryz.prog 18 #[prV Prm.p4] w7 (Ret (.int .i64 2) w7) from prRank_c Prm.p4 (by decide) w7)).mono ?_
  rintro en w8 ⟨rfl, hb8⟩
  replace HX := Lib.hid (HX.out.below hb8)
  replace HB := Lib.hid (below_up HB.out hb8)
  clear hb8
  go_wp2_with fail
  refine (prFirst_c _).mono ?_
  rintro en w9 ⟨rfl, hb9⟩
  replace HX := Lib.hid (HX.out.below hb9)
  replace HB := Lib.hid (below_up HB.out hb9)
  clear hb9
  go_wp2_with fail
  refine ((show Calls Tryz.prog 20 #[prV Prm.p1] w9 (Ret (.int .u64 12) w9) from by have h := prExpires_c Prm.p1 w9; rw [show Clk.addF Prm.p1.time Prm.p1.life = 12 from Prm.wk_exp] at h; exact h)).mono ?_
  rintro en wa ⟨rfl, hba⟩
  replace HX := Lib.hid (HX.out.below hba)
  replace HB := Lib.hid (below_up HB.out hba)
  clear hba
  go_wp2_with fail
  refine (prNum_c _ _).mono ?_
  rintro en wn ⟨rfl, rfl⟩
  have x0 := HX.out.cell (i := 0) rfl
  have x1 := HX.out.cell (i := 1) rfl
  have x2 := HX.out.cell (i := 2) rfl
  have x3 := HX.out.cell (i := 3) rfl
  have x4 := HX.out.cell (i := 4) rfl
  have x5 := HX.out.cell (i := 5) rfl
  have x6 := HX.out.cell (i := 6) rfl
  have x7 := HX.out.cell (i := 7) rfl
  have x8 := HX.out.cell (i := 8) rfl
  have x9 := HX.out.cell (i := 9) rfl
  have x10 := HX.out.cell (i := 10) rfl
  go_wp2_with fail
  clear x0 x1 x2 x3 x4 x5 x6 x7 x8 x9 x10
  refine ((show Calls Tryz.prog 23 #[prV Prm.p3] wa (Ret (.int .i64 2) wa) from by have h := prCheck_c Prm.p3 Prm.p3_ok wa; rw [Prm.p3_okPr] at h; exact h)).mono ?_
  rintro en wb ⟨rfl, hbb⟩
  replace HB := Lib.hid (below_up HB.out hbb)
  clear hbb
  go_wp2_with fail
  refine (prNum_c _ _).mono ?_
  rintro en wn ⟨rfl, rfl⟩
  go_wp2
  go_ret
  exact ⟨rfl, HB.out⟩
end Go.Proofs.YtpkonagjnfphkaaGreatDoor

namespace Go.Proofs.YtpkonagjnfphkaaGreatDoor
open Go.RowKit Trc Cb
set_option linter.unusedSimpArgs false
set_option linter.unusedVariables false
attribute [local go_sem] Oper.semAt_some
/-- A primary's name, or none. -/
abbrev nameV (p : Prm.Pr) : Value := if Dig.chkN p.srN p.time = 0 then .tuple #[nmW p.srN p.srS p.time p.seq, .int .i64 0] else .tuple #[nmW 0 0 0 0, .int .i64 2]
set_option maxHeartbeats 1000000 in
set_option maxRecDepth 100000 in
theorem prName_c (p : Prm.Pr) (w : World) : Calls Tryz.prog 9 #[prV p] w (Ret (nameV p) w) := by
  have X0 := RowAt.new w (prC p).toArray 28
  have x4 := X0.cell (i := 4) rfl
  have x5 := X0.cell (i := 5) rfl
  have x8 := X0.cell (i := 8) rfl
  have x9 := X0.cell (i := 9) rfl
  have hB := below_alloc w (.cells (prC p).toArray 28)
  have X1 := RowAt.new (w.alloc (.cells (prC p).toArray 28)) #[.int .u32 0, .int .u32 0, .int .u64 0, .int .u32 0] 32
  rw [World.size_alloc] at X1
  have X2 := RowAt.new ((w.alloc (.cells (prC p).toArray 28)).alloc (.cells #[.int .u32 0, .int .u32 0, .int .u64 0, .int .u32 0] 32)) #[.int .u32 p.srN, .int .u32 p.srS, .int .u64 p.time, .int .u32 p.seq] 32
  rw [World.size_alloc, World.size_alloc] at X2
  have hB3 := (hB.alloc hB.size (.cells #[.int .u32 0, .int .u32 0, .int .u64 0, .int .u32 0] 32)).alloc (hB.alloc hB.size (.cells #[.int .u32 0, .int .u32 0, .int .u64 0, .int .u32 0] 32)).size (.cells #[.int .u32 p.srN, .int .u32 p.srS, .int .u64 p.time, .int .u32 p.seq] 32)
  have HX1 := Lib.hid (X1.alloc (.cells #[.int .u32 p.srN, .int .u32 p.srS, .int .u64 p.time, .int .u32 p.seq] 32))
  have hc := checkName_cN p.srN p.srS p.time p.seq (((w.alloc (.cells (prC p).toArray 28)).alloc (.cells #[.int .u32 0, .int .u32 0, .int .u64 0, .int .u32 0] 32)).alloc (.cells #[.int .u32 p.srN, .int .u32 p.srS, .int .u64 p.time, .int .u32 p.seq] 32))
  have y0 := X2.cell (i := 0) rfl
  have y1 := X2.cell (i := 1) rfl
  have y2 := X2.cell (i := 2) rfl
  have y3 := X2.cell (i := 3) rfl
  have h12 : Dig.chkN p.srN p.time = 0 ∨ Dig.chkN p.srN p.time = 2 := by unfold Dig.chkN; split <;> simp
  unfold nameV
  rcases h12 with h1 | h1
  · rw [h1] at hc
    rw [if_pos h1]
    clear h1 X1
    go_enter Tryz.func9, Tryz.ntmps9
    go_wp2_with (go_at_call 34; refine hc.mono ?_; rintro en w1 ⟨rfl, hb1⟩; have Y2 := X2.below hb1; have Y1 := HX1.out.below hb1; have e0 := Y2.cell (i := 0) rfl; have e1 := Y2.cell (i := 1) rfl; have e2 := Y2.cell (i := 2) rfl; have e3 := Y2.cell (i := 3) rfl; have f0 := Y1.fz 0; have c0 := Y1.cell (i := 0) rfl; have f1 := Y1.fz 1; have c1 := Y1.cell (i := 1) rfl; have f2 := Y1.fz 2; have c2 := Y1.cell (i := 2) rfl; have f3 := Y1.fz 3; have c3 := Y1.cell (i := 3) rfl)
    have hZ := ((((Y1.set 0 (.int .u32 p.srN)).set 1 (.int .u32 p.srS)).set 2 (.int .u64 p.time)).set 3 (.int .u32 p.seq))
    have g0 := RowAt.cell hZ (i := 0) (v := .int .u32 p.srN) rfl
    have g1 := RowAt.cell hZ (i := 1) (v := .int .u32 p.srS) rfl
    have g2 := RowAt.cell hZ (i := 2) (v := .int .u64 p.time) rfl
    have g3 := RowAt.cell hZ (i := 3) (v := .int .u32 p.seq) rfl
    refine bodyPost_ret (v := .tuple #[nmW p.srN p.srS p.time p.seq, .int .i64 0]) ?_ rfl ?_
    · simp [results, Tryz.results9, go_sem, g0, g1, g2, g3]
    exact ⟨rfl, (below_up hB3 hb1).trans (((((But.setCell (O := fun k => k = w.heap.size + 1) _ _ _ (.inl rfl)).trans (But.setCell (O := fun k => k = w.heap.size + 1) _ _ _ (.inl rfl))).trans (But.setCell (O := fun k => k = w.heap.size + 1) _ _ _ (.inl rfl))).trans (But.setCell (O := fun k => k = w.heap.size + 1) _ _ _ (.inl rfl))).below (fun k e => by omega) (below_up hB3 hb1).size)⟩
  · rw [h1] at hc
    rw [if_neg (by rw [h1]; decide)]
    clear h1 X1
    go_enter Tryz.func9, Tryz.ntmps9
    go_wp2_with (go_at_call 34; refine hc.mono ?_; rintro en w1 ⟨rfl, hb1⟩; have Y2 := X2.below hb1; have Y1 := HX1.out.below hb1; have e0 := Y2.cell (i := 0) rfl; have e1 := Y2.cell (i := 1) rfl; have e2 := Y2.cell (i := 2) rfl; have e3 := Y2.cell (i := 3) rfl; have f0 := Y1.fz 0; have c0 := Y1.cell (i := 0) rfl; have f1 := Y1.fz 1; have c1 := Y1.cell (i := 1) rfl; have f2 := Y1.fz 2; have c2 := Y1.cell (i := 2) rfl; have f3 := Y1.fz 3; have c3 := Y1.cell (i := 3) rfl)
    have hZ := ((((Y1.set 0 (.int .u32 0)).set 1 (.int .u32 0)).set 2 (.int .u64 0)).set 3 (.int .u32 0))
    have g0 := RowAt.cell hZ (i := 0) (v := .int .u32 0) rfl
    have g1 := RowAt.cell hZ (i := 1) (v := .int .u32 0) rfl
    have g2 := RowAt.cell hZ (i := 2) (v := .int .u64 0) rfl
    have g3 := RowAt.cell hZ (i := 3) (v := .int .u32 0) rfl
    refine bodyPost_ret (v := .tuple #[nmW 0 0 0 0, .int .i64 2]) ?_ rfl ?_
    · simp [results, Tryz.results9, go_sem, g0, g1, g2, g3]
    exact ⟨rfl, (below_up hB3 hb1).trans (((((But.setCell (O := fun k => k = w.heap.size + 1) _ _ _ (.inl rfl)).trans (But.setCell (O := fun k => k = w.heap.size + 1) _ _ _ (.inl rfl))).trans (But.setCell (O := fun k => k = w.heap.size + 1) _ _ _ (.inl rfl))).trans (But.setCell (O := fun k => k = w.heap.size + 1) _ _ _ (.inl rfl))).below (fun k e => by omega) (below_up hB3 hb1).size)⟩
/-- Seen among flags: the flag itself. -/
def Prm.seen (q : Nat) (l : List Nat) : Nat := if q ∈ l then q else 0
theorem Prm.seen_at (q : Nat) (l : List Nat) (a : Nat) : Prm.seen q (l ++ [a]) = if a = q then q else Prm.seen q l := by
  unfold Prm.seen
  by_cases h : a = q
  · subst h; simp
  · have : q ∈ l ++ [a] ↔ q ∈ l := by simp; omega
    simp only [this, if_neg h]
theorem Prm.seen_le (q : Nat) (l : List Nat) : Prm.seen q l ≤ q := by unfold Prm.seen; split <;> omega
theorem Prm.flagsN_seen (r : Int) (l : List Nat) : Prm.flagsN r l = Prm.baseN r + Prm.seen 2 l + Prm.seen 32 l := rfl
set_option maxHeartbeats 2000000 in
set_option maxRecDepth 100000 in
theorem rFlagsOf_c (r : Int) (hr : -9223372036854775808 ≤ r ∧ r ≤ 9223372036854775807) (l : List Nat) (v : Value) (w : World) (hv : Sl w 1 v l.length (l.map fun q : Nat => Value.int .u32 q)) (hl : ∀ q ∈ l, q < 4294967296) : Calls Tryz.prog 17 #[.int .i64 r, v] w (Ret (.int .u32 (Prm.flagsN r l : Nat)) w) := by
  obtain ⟨a, c, rfl⟩ := hv.len
  have HV := Lib.hid hv
  have HL := Lib.hid hl
  have hmx := hv.n_max
  obtain ⟨n, hn⟩ : ∃ n, l.length = n := ⟨_, rfl⟩
  have HN := Lib.hid hn
  rw [hn] at HV hmx ⊢
  clear hv hl hn
  by_cases h0 : 0 ≤ r
  · have d0 : decide (0 ≤ r) = true := decide_eq_true h0
    have d01 : decide (r ≥ 0) = true := d0
    by_cases h2 : r ≤ 2
    · have d2 : decide (r ≤ 2) = true := decide_eq_true h2
      obtain ⟨B, hBv⟩ : ∃ B : Nat, Prm.baseN r = B := ⟨_, rfl⟩
      have hBr : (B : Int) = 128 * r := by rw [← hBv]; unfold Prm.baseN; rw [if_pos ⟨h0, h2⟩]; omega
      have hw3 : IntKind.i64.wrap (128 * r) = (B : Int) := by rw [IntKind.wrap_i64]; omega
      have hw4 : IntKind.u32.wrap (B : Int) = (B : Int) := by rw [IntKind.wrap_u32]; omega
      have hw5 : IntKind.u32.wrap (128 * r) = (B : Int) := by rw [IntKind.wrap_u32]; omega
      have HBS := Lib.hid hBv
      have hB2 : B ≤ 256 := by omega
      clear h0 h2 hBr hBv
      go_enter Tryz.func17, Tryz.ntmps17
      go_wp2
      go_loopw [6, 7, 8] (fun va vw vi wr => ∃ k : Nat, vi = .int .i64 k ∧ k ≤ n ∧ va = .int .u32 (Prm.seen 2 (l.take k) : Nat) ∧ vw = .int .u32 (Prm.seen 32 (l.take k) : Nat) ∧ Below w.heap.size w wr) (fun _ _ vi _ => n - (intOf vi).toNat)
      case atStart => exact ⟨0, rfl, Nat.zero_le _, rfl, rfl, Below.refl _ _⟩
      case round =>
        obtain ⟨k, rfl, hk, rfl, rfl, hB⟩ := hrel
        by_cases hlt : k < n
        · have hkl : k < l.length := by rw [HN.out]; exact hlt
          have hv := HV.out.up hB
          rw [← HN.out] at hv
          obtain ⟨b, off, hab, hc⟩ := u32_at hv hkl
          subst hab
          have hT := Lib.hid (Prm.take_at hkl)
          have HS2 := Lib.hid (Prm.seen_at 2 (l.take k) l[k])
          have HS3 := Lib.hid (Prm.seen_at 32 (l.take k) l[k])
          generalize l[k] = q at *
          generalize Prm.seen 2 (l.take k) = A at *
          generalize Prm.seen 32 (l.take k) = C at *
          have hkn : (k : Int) < (n : Int) := by omega
          by_cases h2 : q = 2
          · subst h2
            clear hv
            go_wp2
            go_roundw
            case rel => exact ⟨k + 1, by go_num, by omega, by rw [hT.out, HS2.out]; rfl, by rw [hT.out, HS3.out]; rfl, hB⟩
            case measure => simp [intOf]; omega
          · have e2 : ((q : Int) == 2) = false := by rw [beq_eq_false_iff_ne]; omega
            by_cases h3 : q = 32
            · subst h3
              clear hv h2
              go_wp2
              go_roundw
              case rel => exact ⟨k + 1, by go_num, by omega, by rw [hT.out, HS2.out]; rfl, by rw [hT.out, HS3.out]; rfl, hB⟩
              case measure => simp [intOf]; omega
            · have e3 : ((q : Int) == 32) = false := by rw [beq_eq_false_iff_ne]; omega
              have G2 := Lib.hid (show Prm.seen 2 (l.take (k + 1)) = A by rw [hT.out, HS2.out, if_neg h2])
              have G3 := Lib.hid (show Prm.seen 32 (l.take (k + 1)) = C by rw [hT.out, HS3.out, if_neg h3])
              clear hv h2 h3
              go_wp2
              go_roundw
              case rel => exact ⟨k + 1, by go_num, by omega, by rw [G2.out], by rw [G3.out], hB⟩
              case measure => simp [intOf]; omega
        · obtain rfl : k = n := by omega
          have HA := Lib.hid (show l.take k = l from List.take_of_length_le (by rw [HN.out]; exact Nat.le_refl _))
          have hs2 := Prm.seen_le 2 (l.take k)
          have hs3 := Prm.seen_le 32 (l.take k)
          have HF := Lib.hid (show Prm.flagsN r l = B + Prm.seen 2 (l.take k) + Prm.seen 32 (l.take k) by rw [Prm.flagsN_seen, HBS.out, HA.out])
          have hwc : IntKind.u32.wrap (Prm.seen 2 (l.take k) : Nat) = (Prm.seen 2 (l.take k) : Nat) := by rw [IntKind.wrap_u32]; omega
          have hwd : IntKind.u32.wrap ((Prm.seen 2 (l.take k) : Nat) + (Prm.seen 32 (l.take k) : Nat) : Int) = (Prm.seen 2 (l.take k) : Nat) + (Prm.seen 32 (l.take k) : Nat) := by rw [IntKind.wrap_u32]; omega
          have hwa : IntKind.u32.wrap ((B : Int) + (Prm.seen 2 (l.take k) : Nat)) = (B : Int) + (Prm.seen 2 (l.take k) : Nat) := by rw [IntKind.wrap_u32]; omega
          have hwb : IntKind.u32.wrap ((B : Int) + (Prm.seen 2 (l.take k) : Nat) + (Prm.seen 32 (l.take k) : Nat)) = (B : Int) + (Prm.seen 2 (l.take k) : Nat) + (Prm.seen 32 (l.take k) : Nat) := by rw [IntKind.wrap_u32]; omega
          go_wp2
          go_ret
          refine ⟨?_, hB⟩
          rw [HF.out]
          exact retI (by skip; first | rfl | omega)
    · have d2 : decide (r ≤ 2) = false := decide_eq_false h2
      obtain ⟨B, hBv⟩ : ∃ B : Nat, B = 0 := ⟨_, rfl⟩
      have HBS := Lib.hid (show Prm.baseN r = B by unfold Prm.baseN; rw [if_neg (fun h => h2 h.2), hBv])
      have hB2 : B ≤ 256 := by omega
      have HBZ := Lib.hid hBv
      clear h0 h2 hBv
      go_enter Tryz.func17, Tryz.ntmps17
      go_wp2
      go_loopw [6, 7, 8] (fun va vw vi wr => ∃ k : Nat, vi = .int .i64 k ∧ k ≤ n ∧ va = .int .u32 (Prm.seen 2 (l.take k) : Nat) ∧ vw = .int .u32 (Prm.seen 32 (l.take k) : Nat) ∧ Below w.heap.size w wr) (fun _ _ vi _ => n - (intOf vi).toNat)
      case atStart => exact ⟨0, rfl, Nat.zero_le _, rfl, rfl, Below.refl _ _⟩
      case round =>
        obtain ⟨k, rfl, hk, rfl, rfl, hB⟩ := hrel
        by_cases hlt : k < n
        · have hkl : k < l.length := by rw [HN.out]; exact hlt
          have hv := HV.out.up hB
          rw [← HN.out] at hv
          obtain ⟨b, off, hab, hc⟩ := u32_at hv hkl
          subst hab
          have hT := Lib.hid (Prm.take_at hkl)
          have HS2 := Lib.hid (Prm.seen_at 2 (l.take k) l[k])
          have HS3 := Lib.hid (Prm.seen_at 32 (l.take k) l[k])
          generalize l[k] = q at *
          generalize Prm.seen 2 (l.take k) = A at *
          generalize Prm.seen 32 (l.take k) = C at *
          have hkn : (k : Int) < (n : Int) := by omega
          by_cases h2 : q = 2
          · subst h2
            clear hv
            go_wp2
            go_roundw
            case rel => exact ⟨k + 1, by go_num, by omega, by rw [hT.out, HS2.out]; rfl, by rw [hT.out, HS3.out]; rfl, hB⟩
            case measure => simp [intOf]; omega
          · have e2 : ((q : Int) == 2) = false := by rw [beq_eq_false_iff_ne]; omega
            by_cases h3 : q = 32
            · subst h3
              clear hv h2
              go_wp2
              go_roundw
              case rel => exact ⟨k + 1, by go_num, by omega, by rw [hT.out, HS2.out]; rfl, by rw [hT.out, HS3.out]; rfl, hB⟩
              case measure => simp [intOf]; omega
            · have e3 : ((q : Int) == 32) = false := by rw [beq_eq_false_iff_ne]; omega
              have G2 := Lib.hid (show Prm.seen 2 (l.take (k + 1)) = A by rw [hT.out, HS2.out, if_neg h2])
              have G3 := Lib.hid (show Prm.seen 32 (l.take (k + 1)) = C by rw [hT.out, HS3.out, if_neg h3])
              clear hv h2 h3
              go_wp2
              go_roundw
              case rel => exact ⟨k + 1, by go_num, by omega, by rw [G2.out], by rw [G3.out], hB⟩
              case measure => simp [intOf]; omega
        · obtain rfl : k = n := by omega
          have HA := Lib.hid (show l.take k = l from List.take_of_length_le (by rw [HN.out]; exact Nat.le_refl _))
          have hs2 := Prm.seen_le 2 (l.take k)
          have hs3 := Prm.seen_le 32 (l.take k)
          have HF := Lib.hid (show Prm.flagsN r l = B + Prm.seen 2 (l.take k) + Prm.seen 32 (l.take k) by rw [Prm.flagsN_seen, HBS.out, HA.out])
          have hwc : IntKind.u32.wrap (Prm.seen 2 (l.take k) : Nat) = (Prm.seen 2 (l.take k) : Nat) := by rw [IntKind.wrap_u32]; omega
          have hwd : IntKind.u32.wrap ((Prm.seen 2 (l.take k) : Nat) + (Prm.seen 32 (l.take k) : Nat) : Int) = (Prm.seen 2 (l.take k) : Nat) + (Prm.seen 32 (l.take k) : Nat) := by rw [IntKind.wrap_u32]; omega
          have hwa : IntKind.u32.wrap ((B : Int) + (Prm.seen 2 (l.take k) : Nat)) = (B : Int) + (Prm.seen 2 (l.take k) : Nat) := by rw [IntKind.wrap_u32]; omega
          have hwb : IntKind.u32.wrap ((B : Int) + (Prm.seen 2 (l.take k) : Nat) + (Prm.seen 32 (l.take k) : Nat)) = (B : Int) + (Prm.seen 2 (l.take k) : Nat) + (Prm.seen 32 (l.take k) : Nat) := by rw [IntKind.wrap_u32]; omega
          go_wp2
          go_ret
          refine ⟨?_, hB⟩
          rw [HF.out]
          exact retI (by have := HBZ.out; first | rfl | omega)
  · have d0 : decide (0 ≤ r) = false := decide_eq_false h0
    have d01 : decide (r ≥ 0) = false := d0
    obtain ⟨B, hBv⟩ : ∃ B : Nat, B = 0 := ⟨_, rfl⟩
    have HBS := Lib.hid (show Prm.baseN r = B by unfold Prm.baseN; rw [if_neg (fun h => h0 h.1), hBv])
    have hB2 : B ≤ 256 := by omega
    have HBZ := Lib.hid hBv
    clear h0 hBv
    go_enter Tryz.func17, Tryz.ntmps17
    go_wp2
    go_loopw [6, 7, 8] (fun va vw vi wr => ∃ k : Nat, vi = .int .i64 k ∧ k ≤ n ∧ va = .int .u32 (Prm.seen 2 (l.take k) : Nat) ∧ vw = .int .u32 (Prm.seen 32 (l.take k) : Nat) ∧ Below w.heap.size w wr) (fun _ _ vi _ => n - (intOf vi).toNat)
    case atStart => exact ⟨0, rfl, Nat.zero_le _, rfl, rfl, Below.refl _ _⟩
    case round =>
      obtain ⟨k, rfl, hk, rfl, rfl, hB⟩ := hrel
      by_cases hlt : k < n
      · have hkl : k < l.length := by rw [HN.out]; exact hlt
        have hv := HV.out.up hB
        rw [← HN.out] at hv
        obtain ⟨b, off, hab, hc⟩ := u32_at hv hkl
        subst hab
        have hT := Lib.hid (Prm.take_at hkl)
        have HS2 := Lib.hid (Prm.seen_at 2 (l.take k) l[k])
        have HS3 := Lib.hid (Prm.seen_at 32 (l.take k) l[k])
        generalize l[k] = q at *
        generalize Prm.seen 2 (l.take k) = A at *
        generalize Prm.seen 32 (l.take k) = C at *
        have hkn : (k : Int) < (n : Int) := by omega
        by_cases h2 : q = 2
        · subst h2
          clear hv
          go_wp2
          go_roundw
          case rel => exact ⟨k + 1, by go_num, by omega, by rw [hT.out, HS2.out]; rfl, by rw [hT.out, HS3.out]; rfl, hB⟩
          case measure => simp [intOf]; omega
        · have e2 : ((q : Int) == 2) = false := by rw [beq_eq_false_iff_ne]; omega
          by_cases h3 : q = 32
          · subst h3
            clear hv h2
            go_wp2
            go_roundw
            case rel => exact ⟨k + 1, by go_num, by omega, by rw [hT.out, HS2.out]; rfl, by rw [hT.out, HS3.out]; rfl, hB⟩
            case measure => simp [intOf]; omega
          · have e3 : ((q : Int) == 32) = false := by rw [beq_eq_false_iff_ne]; omega
            have G2 := Lib.hid (show Prm.seen 2 (l.take (k + 1)) = A by rw [hT.out, HS2.out, if_neg h2])
            have G3 := Lib.hid (show Prm.seen 32 (l.take (k + 1)) = C by rw [hT.out, HS3.out, if_neg h3])
            clear hv h2 h3
            go_wp2
            go_roundw
            case rel => exact ⟨k + 1, by go_num, by omega, by rw [G2.out], by rw [G3.out], hB⟩
            case measure => simp [intOf]; omega
      · obtain rfl : k = n := by omega
        have HA := Lib.hid (show l.take k = l from List.take_of_length_le (by rw [HN.out]; exact Nat.le_refl _))
        have hs2 := Prm.seen_le 2 (l.take k)
        have hs3 := Prm.seen_le 32 (l.take k)
        have HF := Lib.hid (show Prm.flagsN r l = B + Prm.seen 2 (l.take k) + Prm.seen 32 (l.take k) by rw [Prm.flagsN_seen, HBS.out, HA.out])
        have hwc : IntKind.u32.wrap (Prm.seen 2 (l.take k) : Nat) = (Prm.seen 2 (l.take k) : Nat) := by rw [IntKind.wrap_u32]; omega
        have hwd : IntKind.u32.wrap ((Prm.seen 2 (l.take k) : Nat) + (Prm.seen 32 (l.take k) : Nat) : Int) = (Prm.seen 2 (l.take k) : Nat) + (Prm.seen 32 (l.take k) : Nat) := by rw [IntKind.wrap_u32]; omega
        have hwa : IntKind.u32.wrap ((B : Int) + (Prm.seen 2 (l.take k) : Nat)) = (B : Int) + (Prm.seen 2 (l.take k) : Nat) := by rw [IntKind.wrap_u32]; omega
        have hwb : IntKind.u32.wrap ((B : Int) + (Prm.seen 2 (l.take k) : Nat) + (Prm.seen 32 (l.take k) : Nat)) = (B : Int) + (Prm.seen 2 (l.take k) : Nat) + (Prm.seen 32 (l.take k) : Nat) := by rw [IntKind.wrap_u32]; omega
        go_wp2
        go_ret
        refine ⟨?_, hB⟩
        rw [HF.out]
        exact retI (by have := HBZ.out; first | rfl | omega)
end Go.Proofs.YtpkonagjnfphkaaGreatDoor

namespace Go.Proofs.YtpkonagjnfphkaaGreatDoor
open Go.RowKit Cb
set_option linter.unusedSimpArgs false
set_option linter.unusedVariables false
attribute [local go_sem] Oper.semAt_some
theorem pcS : SlT Tryz.prog 29 22 1 4 := SlT.mk' Tryz.underlying29 (z := .int .u32 0) (by kernel_rfl) rfl (by decide)
theorem pcS1 (w : World) (k : Nat) (hk : k = w.heap.size) (m : Int) : Sl (w.alloc (.cells #[.int .u32 m] 22)) 1 (.slice (some ⟨k, 0, none⟩) 1 1) 1 [.int .u32 m] := by
  subst hk
  exact Sl.of_own (World.ownsRow_lit w #[.int .u32 m] 1 (size := 1) (e := 22) (Nat.le_refl _) (by decide) rfl)
abbrev pcU (U : List Int) : List Value := U.map (Value.int .u32)
/-- The variable in block C holds a slice of one's own that reads U. -/
structure PcA (base C : Nat) (v : Value) (U : List Int) (W : World) : Prop where
  box : Boxed W C 29 v
  row : W.ownsRow base 22 1 v U.length (pcU U)
  le : base ≤ C
theorem PcA.but {base C : Nat} {v : Value} {U : List Int} {W W' : World} (h : PcA base C v U W) {O : Nat → Prop} (hb : But O W W') (h1 : ¬ O C) (h2 : ∀ k, v.ownBlock = some k → ¬ O k) : PcA base C v U W' :=
  ⟨hb.boxed h.box h1, own_but h.row hb h2, h.le⟩
theorem PcA.up {base C : Nat} {v : Value} {U : List Int} {W W' : World} (h : PcA base C v U W) (hb : Below W.heap.size W W') : PcA base C v U W' := h.but (O := fun _ => False) (But.of_below hb) (fun e => e) (fun _ _ e => e)
/-- What is collected on the way: v0 was the slice at the beginning, in W0. -/
structure PcI (W0 : World) (base C : Nat) (v0 : Value) (U : List Int) (G : Nat → Prop) (W : World) : Prop where
  acc : ∃ v, PcA base C v U W ∧ (∀ j, v.ownBlock = some j → G j) ∧ (v.ownBlock = v0.ownBlock ∨ ∀ j, v.ownBlock = some j → W0.heap.size ≤ j)
  own : G C
  low : ∀ j, G j → j = C ∨ v0.ownBlock = some j ∨ W0.heap.size ≤ j
  but : But (fun k => k = C ∨ v0.ownBlock = some k) W0 W
theorem PcI.abide {W0 : World} {base C : Nat} {v0 : Value} {U : List Int} {B : Nat} (hB : W0.heap.size ≤ B) : Abide B (PcI W0 base C v0 U) := by
  intro G W W' h hb
  obtain ⟨v, h1, h2, h3⟩ := h.acc
  exact ⟨⟨v, h1.but hb (fun e => e.2 h.own) (fun j hj e => e.2 (h2 j hj)), h2, h3⟩, h.own, h.low, h.but.then hb (fun j hj e => by have := e.1; omega)⟩
theorem PcI.start {W0 : World} {base C : Nat} {v0 : Value} {U : List Int} (h : PcA base C v0 U W0) : PcI W0 base C v0 U (fun j => j = C ∨ v0.ownBlock = some j) W0 :=
  ⟨⟨v0, h, fun j hj => .inr hj, .inl rfl⟩, .inl rfl, fun j h => by rcases h with h | h; exact .inl h; exact .inr (.inl h), But.refl _ _⟩
theorem PcI.step {W0 : World} {base C : Nat} {v0 : Value} {U : List Int} {m : Int} {G : Nat → Prop} {W w1 : World} (hi : PcI W0 base C v0 U G W) {v v' : Value} (ha : PcA base C v U W) (hvG : ∀ j, v.ownBlock = some j → G j) (hv0 : v.ownBlock = v0.ownBlock ∨ ∀ j, v.ownBlock = some j → W0.heap.size ≤ j) {tmp : Obj} (hbase : base ≤ W.heap.size)
    (hown : w1.ownsRow base 22 1 v' (U.length + 1) (pcU U ++ [.int .u32 m])) (hgrow : (W.alloc tmp).grownBy w1 v.ownBlock) (hat : v'.ownBlock = v.ownBlock ∨ v'.ownBlock = some (W.alloc tmp).heap.size) :
    Boxed w1 C 29 v ∧ But G W (w1.setCell ⟨C, 0, none⟩ v') ∧ PcI W0 base C v0 (U ++ [m]) (newG G W (w1.setCell ⟨C, 0, none⟩ v')) (w1.setCell ⟨C, 0, none⟩ v') := by
  obtain ⟨h1, h2, h3, _, _⟩ := ha.box.appended (by decide) ha.row hbase ha.le hown hgrow
  have hb1 : But G W w1 := (But.alloc W _).then (But.grown (O := G) hgrow (fun r e => .inl (hvG r e))) (fun _ _ h => h)
  have hb : But G W (w1.setCell ⟨C, 0, none⟩ v') := hb1.trans (But.setCell _ _ _ (.inl hi.own))
  refine ⟨h1, hb, ⟨v', ⟨h2, by rw [List.length_append]; simpa using h3, ha.le⟩, fun j hj => ?_, ?_⟩, newG_old hi.own, fun j hj => ?_, hi.but.then hb (fun j hj e => ?_)⟩
  · rcases hat with h | h
    · exact newG_old (hvG j (h ▸ hj))
    · have hlt := (own_of_some hown hj).2
      rw [h] at hj
      simp only [World.size_alloc, Option.some.injEq] at hj
      exact .inr ⟨by omega, by simpa using hlt⟩
  · have hs := hi.but.size
    rcases hat with h | h
    · rw [h]; exact hv0
    · refine .inr fun j hj => ?_
      rw [h] at hj
      simp only [World.size_alloc, Option.some.injEq] at hj
      omega
  · rcases hj with h | h
    · exact hi.low j h
    · have := hi.but.size; exact .inr (.inr (by omega))
  · rcases hi.low j e with h | h | h
    · exact .inl h
    · exact .inr h
    · omega
end Go.Proofs.YtpkonagjnfphkaaGreatDoor

namespace Go.Proofs.YtpkonagjnfphkaaGreatDoor
open Go.RowKit Trc
set_option linter.unusedVariables false
theorem pr_nat32 {a : Int} (h : (Lit.int .u32 a).wf = true) : ∃ k : Nat, a = k ∧ k < 4294967296 := by
  simp [Lit.wf, IntKind.min, IntKind.max, IntKind.signed, IntKind.bits] at h
  exact ⟨a.toNat, by omega, by omega⟩
theorem pr_nat64 {a : Int} (h : (Lit.int .u64 a).wf = true) : ∃ k : Nat, a = k ∧ k < 18446744073709551616 := by
  simp [Lit.wf, IntKind.min, IntKind.max, IntKind.signed, IntKind.bits] at h
  exact ⟨a.toNat, by omega, by omega⟩
theorem pr_int {a : Int} (h : (Lit.int .i64 a).wf = true) : -9223372036854775808 ≤ a ∧ a ≤ 9223372036854775807 := by
  simp [Lit.wf, IntKind.min, IntKind.max, IntKind.signed, IntKind.bits] at h
  omega
theorem pr_of (a0 : Int) (h0 : (Lit.int .u32 a0).wf = true) (a1 : Int) (h1 : (Lit.int .i64 a1).wf = true) (a2 : Int) (h2 : (Lit.int .u32 a2).wf = true) (a3 : Int) (h3 : (Lit.int .u32 a3).wf = true) (a4 : Int) (h4 : (Lit.int .u32 a4).wf = true) (a5 : Int) (h5 : (Lit.int .u32 a5).wf = true) (a6 : Int) (h6 : (Lit.int .u32 a6).wf = true) (a7 : Int) (h7 : (Lit.int .u32 a7).wf = true) (a8 : Int) (h8 : (Lit.int .u64 a8).wf = true) (a9 : Int) (h9 : (Lit.int .u32 a9).wf = true) (a10 : Int) (h10 : (Lit.int .u64 a10).wf = true) :
    ∃ p : Prm.Pr, p.Ok ∧ (.agg #[.int .u32 a0, .int .i64 a1, .int .u32 a2, .int .u32 a3, .int .u32 a4, .int .u32 a5, .int .u32 a6, .int .u32 a7, .int .u64 a8, .int .u32 a9, .int .u64 a10] : Value) = prV p := by
  obtain ⟨k0, rfl, b0⟩ := pr_nat32 h0
  obtain ⟨b1, b1'⟩ := pr_int h1
  obtain ⟨k2, rfl, b2⟩ := pr_nat32 h2
  obtain ⟨k3, rfl, b3⟩ := pr_nat32 h3
  obtain ⟨k4, rfl, b4⟩ := pr_nat32 h4
  obtain ⟨k5, rfl, b5⟩ := pr_nat32 h5
  obtain ⟨k6, rfl, b6⟩ := pr_nat32 h6
  obtain ⟨k7, rfl, b7⟩ := pr_nat32 h7
  obtain ⟨k8, rfl, b8⟩ := pr_nat64 h8
  obtain ⟨k9, rfl, b9⟩ := pr_nat32 h9
  obtain ⟨k10, rfl, b10⟩ := pr_nat64 h10
  exact ⟨⟨k0, a1, k2, k3, k4, k5, k6, k7, k8, k9, k10⟩, ⟨b0, b1, b1', b2, b3, b4, b5, b6, b7, b8, b9, b10⟩, rfl⟩
end Go.Proofs.YtpkonagjnfphkaaGreatDoor
