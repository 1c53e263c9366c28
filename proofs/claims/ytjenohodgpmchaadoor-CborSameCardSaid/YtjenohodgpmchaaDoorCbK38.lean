/-
  CbFi: several texts in one (bundle.py).
-/
import Derived.Test.YtjenohodgpmchaaDoorCbK37
import Derived.Test.YtjenohodgpmchaaDoorCbK24
namespace Go.Proofs.YtjenohodgpmchaaDoor
open Go.RowKit Cb
set_option linter.unusedSimpArgs false
set_option linter.unusedVariables false
theorem item_c : ∀ (d i : Nat), d + i = 8 → ∀ (w : World) (D : Nat) (v : Value) (b : List UInt8), RdAt w D v b → b.length ≤ 1000000 → Tabs w → Calls Tryd.prog 32 #[.pointer (some ⟨D, 0, none⟩), .int .i64 i] w (ItE d b w D) := by
  intro d
  induction d with
  | zero => exact fun i hi w D v b _ _ _ => (item_deep w D i (by omega)).mono fun en w' h => ⟨But.of_below h.2, h.1⟩
  | succ d ih => exact fun i hi w D v b h hl hT => item_step d i (by omega) (fun w D v b h hl hT => by have := ih (i + 1) (by omega) w D v b h hl hT; rwa [Int.natCast_add] at this) w D v b h hl hT
namespace Cb
/-- The item of the first bytes. -/
def firstP (b : List UInt8) : Except Int (It × Nat) := if 65536 < b.length then .error 3 else itemP 8 b
end Cb
/-- What First tells. -/
def FstE (b : List UInt8) (w : World) (en : Ending) (w' : World) : Prop := Below w.heap.size w w' ∧ match firstP b with
  | .error e => en = .returned (.tuple #[zeroIt, .int .i64 0, .int .i64 e])
  | .ok (x, k) => ∃ r, en = .returned (.tuple #[rwV r, .int .i64 k, .int .i64 0]) ∧ ItR (fun j => w.heap.size ≤ j ∧ j < w'.heap.size) w' x r
theorem set5_same {X : Nat} {T : TypeId} {v0 v1 v2 v3 v4 : Value} {w : World} (hX : RowAt w X #[v0, v1, v2, v3, v4] T) : (((((w.setCell ⟨X, 0, none⟩ v0).setCell ⟨X, 1, none⟩ v1).setCell ⟨X, 2, none⟩ v2).setCell ⟨X, 3, none⟩ v3).setCell ⟨X, 4, none⟩ v4) = w := by
  rw [hX.same (i := 0) (v := v0) rfl, hX.same (i := 1) (v := v1) rfl, hX.same (i := 2) (v := v2) rfl, hX.same (i := 3) (v := v3) rfl, hX.same (i := 4) (v := v4) rfl]
theorem out_block {w : World} {sz n : Nat} {v : Value} {cs : List Value} (h : Sl w sz v n cs) (hsz : 0 < sz) : n = 0 ∨ ∀ k, v.ownBlock = some k → k < w.heap.size := h.blk hsz
set_option maxHeartbeats 4000000 in
set_option maxRecDepth 100000 in
theorem cbFirst_c (w : World) (v : Value) (b : List UInt8) (hv : Sl w 1 v b.length (by8 b)) (hT : Tabs w) : Calls Tryd.prog 10 #[v] w (FstE b w) := by
  obtain ⟨a, c, rfl⟩ := hv.len
  have hblk := hv.blk (by decide)
  have hmf : ∀ (fn : Fn) (first cap : Array Value) (w : World), (Instr.makeFunc fn first cap).run Tryd.prog w = .ok (.func fn first cap) w := fun _ _ _ _ => rfl
  have XX := ((RowAt.new w #[.int .i64 0, .int .u64 0, .slice none 0 0, .string ⟨#[]⟩, .slice none 0 0] 28).below (below_alloc _ (.cells #[.int .i64 0] 3))).below (below_alloc _ (.cells #[.int .i64 0] 29))
  have XN := (RowAt.new (w.alloc (.cells #[.int .i64 0, .int .u64 0, .slice none 0 0, .string ⟨#[]⟩, .slice none 0 0] 28)) #[.int .i64 0] 3).below (below_alloc _ (.cells #[.int .i64 0] 29))
  have XE := RowAt.new ((w.alloc (.cells #[.int .i64 0, .int .u64 0, .slice none 0 0, .string ⟨#[]⟩, .slice none 0 0] 28)).alloc (.cells #[.int .i64 0] 3)) #[.int .i64 0] 29
  have hB0 : Below w.heap.size w (((w.alloc (.cells #[.int .i64 0, .int .u64 0, .slice none 0 0, .string ⟨#[]⟩, .slice none 0 0] 28)).alloc (.cells #[.int .i64 0] 3)).alloc (.cells #[.int .i64 0] 29)) := ((below_alloc w _).alloc (by simp) _).alloc (by simp; omega) _
  have hz0 : (((w.alloc (.cells #[.int .i64 0, .int .u64 0, .slice none 0 0, .string ⟨#[]⟩, .slice none 0 0] 28)).alloc (.cells #[.int .i64 0] 3)).alloc (.cells #[.int .i64 0] 29)).heap.size = w.heap.size + 3 := by simp
  simp only [World.size_alloc] at XN XE
  obtain ⟨W3, hW3⟩ : ∃ W3, (((w.alloc (.cells #[.int .i64 0, .int .u64 0, .slice none 0 0, .string ⟨#[]⟩, .slice none 0 0] 28)).alloc (.cells #[.int .i64 0] 3)).alloc (.cells #[.int .i64 0] 29)) = W3 := ⟨_, rfl⟩
  rw [hW3] at XX XN XE hB0 hz0
  by_cases hL : 65536 < b.length
  · have HC := Lib.hid (show firstP b = .error 3 by unfold firstP; rw [if_pos hL])
    have hl1 : decide ((b.length : Int) ≤ 65536) = false := decide_eq_false (by omega)
    go_enter_defers Tryd.func10, Tryd.ntmps10
    go_wp2_with (first
      | (go_at_call 31; with_reducible refine (must_no _ _).mono ?_; rintro en w6 ⟨rfl, rfl⟩))
    refine fst_door w.heap.size (w.heap.size + 1) (w.heap.size + 1 + 1) 3 _ _ _ _ _ _ W3 XX XN XE (by omega) (by omega) (by omega) _ _ _ _ _ _ _ _ _ _ _ _ _ _ _ _ _ _ _ _ _ _ (fun W' hb => ⟨?_, by rw [HC.out]⟩)
    exact hB0.trans (hb.below (fun k e => by omega) hB0.size)
  · have hl1 : decide ((b.length : Int) ≤ 65536) = true := decide_eq_true (by omega)
    have hfp : firstP b = itemP 8 b := by unfold firstP; rw [if_neg hL]
    have hB4 : Below w.heap.size w (W3.alloc (.cells #[.slice a b.length c] 67)) := hB0.alloc hB0.size _
    have hrd : RdAt (W3.alloc (.cells #[.slice a b.length c] 67)) (w.heap.size + 3) (.slice a b.length c) b := by
      refine ⟨?_, (hv.up hB4), hblk.imp id fun f k hk => by have := f k hk; omega⟩
      have := RowAt.new W3 #[.slice a b.length c] 67
      rwa [hz0] at this
    have hit := item_c 8 0 rfl (W3.alloc (.cells #[.slice a b.length c] 67)) _ _ b hrd (by omega) (hT.up hB4)
    have XX4 := XX.alloc (.cells #[.slice a b.length c] 67)
    have XN4 := XN.alloc (.cells #[.slice a b.length c] 67)
    have XE4 := XE.alloc (.cells #[.slice a b.length c] 67)
    have hz4 : (W3.alloc (.cells #[.slice a b.length c] 67)).heap.size = w.heap.size + 4 := by rw [World.size_alloc, hz0]
    cases hx : itemP 8 b with
    | error e =>
      have hit : Calls Tryd.prog 32 #[.pointer (some ⟨w.heap.size + 3, 0, none⟩), .int .i64 0] (W3.alloc (.cells #[.slice a b.length c] 67)) (fun en w' => en = .panicked (gup e) ∧ But (fun k => k = w.heap.size + 3) (W3.alloc (.cells #[.slice a b.length c] 67)) w') := hit.mono fun en w' h => ⟨by have := h.2; rw [hx] at this; exact this, h.1⟩
      have HC := Lib.hid (hfp.trans hx)
      clear hfp hx
      go_enter_defers Tryd.func10, Tryd.ntmps10
      go_wp2_with (first
        | (go_at_call 31; with_reducible refine (must_yes _ _).mono ?_; rintro en w6 ⟨rfl, rfl⟩)
        | (go_at_call 32; refine hit.mono ?_; rintro en w5 ⟨rfl, hb5⟩))
      refine fst_door w.heap.size (w.heap.size + 1) (w.heap.size + 1 + 1) e _ _ _ _ _ _ w5 ((hb5.same _ XX4.lt (by omega)).trans XX4) ((hb5.same _ XN4.lt (by omega)).trans XN4) ((hb5.same _ XE4.lt (by omega)).trans XE4) (by omega) (by omega) (by omega) _ _ _ _ _ _ _ _ _ _ _ _ _ _ _ _ _ _ _ _ _ _ (fun W' hb => ⟨?_, by rw [HC.out]⟩)
      have h45 := hb5.below (B := w.heap.size) (fun k e => by omega) (by omega)
      exact (hB4.trans h45).trans (hb.below (fun k e => by omega) (hB4.trans h45).size)
    | ok p =>
      obtain ⟨x, K⟩ := p
      have hK := itemP_some _ _ _ _ hx
      have hit : Calls Tryd.prog 32 #[.pointer (some ⟨w.heap.size + 3, 0, none⟩), .int .i64 0] (W3.alloc (.cells #[.slice a b.length c] 67)) (fun en w' => ∃ r v', en = .returned (rwV r) ∧ But (fun k => k = w.heap.size + 3) (W3.alloc (.cells #[.slice a b.length c] 67)) w' ∧ ItR (fun j => (W3.alloc (.cells #[.slice a b.length c] 67)).heap.size ≤ j ∧ j < w'.heap.size) w' x r ∧ RdAt w' (w.heap.size + 3) v' (b.drop K)) := hit.mono fun en w' h => by
        have h2 := h.2
        rw [hx] at h2
        obtain ⟨r, v', e1, e2, e3⟩ := h2
        exact ⟨r, v', e1, h.1, e2, e3⟩
      have HC := Lib.hid (hfp.trans hx)
      clear hfp hx
      have hDL : (b.drop K).length = b.length - K := List.length_drop
      have HV := Lib.hid hv
      clear hv hrd
      obtain ⟨L, hLL⟩ : ∃ L, b.length = L := ⟨_, rfl⟩
      rw [hLL] at hit hl1 hDL hK hL hB4 XX4 XN4 XE4 hz4 ⊢
      go_enter_defers Tryd.func10, Tryd.ntmps10
      go_wp2_with (first
        | (go_at_call 31; with_reducible refine (must_yes _ _).mono ?_; rintro en w6 ⟨rfl, rfl⟩)
        | (go_at_call 32; refine hit.mono ?_; rintro en w5 ⟨r5, v5, rfl, hb5, hr5, hR5⟩; have hsh := hr5.shape; obtain ⟨k1, n1, ba1, bn1, bc1, s1, la1, ln1, lc1, rfl⟩ := hsh; have hX5 : RowAt w5 w.heap.size _ _ := (hb5.same _ XX4.lt (by omega)).trans XX4; have hN5 : RowAt w5 (w.heap.size + 1) _ _ := (hb5.same _ XN4.lt (by omega)).trans XN4; have hE5 : RowAt w5 (w.heap.size + 1 + 1) _ _ := (hb5.same _ XE4.lt (by omega)).trans XE4; have e0 := hX5.cell (i := 0) rfl; have e1 := hX5.cell (i := 1) rfl; have e2 := hX5.cell (i := 2) rfl; have e3 := hX5.cell (i := 3) rfl; have e4 := hX5.cell (i := 4) rfl; have g0 := hX5.fz 0; have g1 := hX5.fz 1; have g2 := hX5.fz 2; have g3 := hX5.fz 3; have g4 := hX5.fz 4))
      have hX5 := (hb5.same _ XX4.lt (by omega)).trans XX4
      obtain ⟨hX6, hb6⟩ := set5 hX5 (.int .i64 k1) (.int .u64 n1) (.slice ba1 bn1 bc1) (.string s1) (.slice la1 ln1 lc1)
      have hN6 := (hb6.same _ hN5.lt (by omega)).trans hN5
      have hE6 := (hb6.same _ hE5.lt (by omega)).trans hE5
      obtain ⟨a6, c6, hv6⟩ := hR5.sl.len
      subst hv6
      have hD5 := hR5.box
      rw [hDL] at hD5
      have hD6 : RowAt _ (w.heap.size + 3) _ _ := (hb6.same _ (RowAt.lt hD5) (by omega)).trans hD5
      have hN6' : RowAt _ (w.heap.size + 1) _ _ := hN6
      have hE6' : RowAt _ (w.heap.size + 1 + 1) _ _ := hE6
      have hz5 := hb5.size
      have hz6 := hb6.size
      obtain ⟨W6, hW6⟩ : ∃ W6, (((((w5.setCell ⟨w.heap.size, 0, none⟩ (.int .i64 k1)).setCell ⟨w.heap.size, 1, none⟩ (.int .u64 n1)).setCell ⟨w.heap.size, 2, none⟩ (.slice ba1 bn1 bc1)).setCell ⟨w.heap.size, 3, none⟩ (.string s1)).setCell ⟨w.heap.size, 4, none⟩ (.slice la1 ln1 lc1)) = W6 := ⟨_, rfl⟩
      rw [hW6] at hX6 hb6 hN6' hE6' hD6 hz6 ⊢
      clear e0 e1 e2 e3 e4 g0 g1 g2 g3 g4 hN6 hE6
      have hnum : IntKind.i64.wrap ((L : Int) - ((L - K : Nat) : Int)) = K := by rw [wrap_i64 (by omega) (by omega)]; omega
      refine wp_onlyN ?_
      refine wp_region_pt (fun q => q = w.heap.size + 1 ∨ q = w.heap.size + 1 + 1) (.q 0 (.q 1 (.q 2 (.q 3 (.q 4 (.q 5 (.q 6 (.q 7 (.q 8 (.c 9 (.c 10 (.c 11 .done)))))))))))) (by kernel_rfl) (by kernel_rfl) (by kernel_rfl) (by decide) onlyN_panic (fun Wd hBd => ?_)
      try simp only [Act.put, List.getElem_toArray, List.getElem_cons_zero, List.getElem_cons_succ, List.setIfInBounds_toArray, List.set_cons_zero, List.set_cons_succ]
      have hXd := hX6.below hBd
      have hNd := hN6'.below hBd
      have hEd := hE6'.below hBd
      have hDd := hD6.below hBd
      have d0 := hDd.cell (i := 0) rfl
      have hzd := hBd.size
      have x0 := hXd.cell (i := 0) rfl
      have x1 := hXd.cell (i := 1) rfl
      have x2 := hXd.cell (i := 2) rfl
      have x3 := hXd.cell (i := 3) rfl
      have x4 := hXd.cell (i := 4) rfl
      have y0 := hXd.fz 0
      have y1 := hXd.fz 1
      have y2 := hXd.fz 2
      have y3 := hXd.fz 3
      have y4 := hXd.fz 4
      have n0 := hNd.cell (i := 0) rfl
      have z0 := hNd.fz 0
      have hE7 : RowAt (Wd.setCell ⟨w.heap.size + 1, 0, none⟩ (.int .i64 K)) (w.heap.size + 1 + 1) _ _ := ((But.setCell (O := fun q => q = w.heap.size + 1) Wd ⟨w.heap.size + 1, 0, none⟩ _ (.inl rfl)).same _ hEd.lt (by omega)).trans hEd
      have e0 := hE7.cell (i := 0) rfl
      have v0 := hE7.fz 0
      refine pt_load rfl (by rfl) 28 (.tmp 2) rfl w.heap.size 0 rfl (rwC ⟨k1, n1, .slice ba1 bn1 bc1, s1, .slice la1 ln1 lc1⟩) _ (RowAt.range (cs := rwC ⟨k1, n1, .slice ba1 bn1 bc1, s1, .slice la1 ln1 lc1⟩) hXd) (by show ¬ _; omega) Tryd.underlying28 rfl (by kernel_rfl) ?_
      try simp only [Act.put, List.getElem_toArray, List.getElem_cons_zero, List.getElem_cons_succ, List.setIfInBounds_toArray, List.set_cons_zero, List.set_cons_succ]
      refine pt_q (v := ?_) rfl (by rfl) ?_ ?_
      rotate_left
      · intro w' hBw'
        have q0 := hBw'.cell d0 (fun e => by omega)
        first | (go_simp; done) | (go_simp; with_reducible rfl)
      try simp only [Act.put, List.getElem_toArray, List.getElem_cons_zero, List.getElem_cons_succ, List.setIfInBounds_toArray, List.set_cons_zero, List.set_cons_succ]
      refine pt_q (v := ?_) rfl (by rfl) ?_ ?_
      rotate_left
      · intro w' hBw'
        have q0 := hBw'.cell d0 (fun e => by omega)
        first | (go_simp; done) | (go_simp; with_reducible rfl)
      try simp only [Act.put, List.getElem_toArray, List.getElem_cons_zero, List.getElem_cons_succ, List.setIfInBounds_toArray, List.set_cons_zero, List.set_cons_succ]
      refine pt_q (v := ?_) rfl (by rfl) ?_ ?_
      rotate_left
      · intro w' hBw'
        have q0 := hBw'.cell d0 (fun e => by omega)
        first | (go_simp; done) | (go_simp; with_reducible rfl)
      try simp only [Act.put, List.getElem_toArray, List.getElem_cons_zero, List.getElem_cons_succ, List.setIfInBounds_toArray, List.set_cons_zero, List.set_cons_succ]
      refine pt_q (v := ?_) rfl (by rfl) ?_ ?_
      rotate_left
      · intro w' hBw'
        have q0 := hBw'.cell d0 (fun e => by omega)
        first | (go_simp; done) | (go_simp; with_reducible rfl)
      try simp only [Act.put, List.getElem_toArray, List.getElem_cons_zero, List.getElem_cons_succ, List.setIfInBounds_toArray, List.set_cons_zero, List.set_cons_succ]
      refine pt_q (v := ?_) rfl (by rfl) ?_ ?_
      rotate_left
      · intro w' hBw'
        have q0 := hBw'.cell d0 (fun e => by omega)
        first | (go_simp; done) | (go_simp; with_reducible rfl)
      try simp only [Act.put, List.getElem_toArray, List.getElem_cons_zero, List.getElem_cons_succ, List.setIfInBounds_toArray, List.set_cons_zero, List.set_cons_succ]
      refine pt_q (v := ?_) rfl (by rfl) ?_ ?_
      rotate_left
      · intro w' hBw'
        have q0 := hBw'.cell d0 (fun e => by omega)
        first | (go_simp; done) | (go_simp; with_reducible rfl)
      try simp only [Act.put, List.getElem_toArray, List.getElem_cons_zero, List.getElem_cons_succ, List.setIfInBounds_toArray, List.set_cons_zero, List.set_cons_succ]
      refine pt_q (v := ?_) rfl (by rfl) ?_ ?_
      rotate_left
      · intro w' hBw'
        have q0 := hBw'.cell d0 (fun e => by omega)
        first | (go_simp; done) | (go_simp; with_reducible rfl)
      try simp only [Act.put, List.getElem_toArray, List.getElem_cons_zero, List.getElem_cons_succ, List.setIfInBounds_toArray, List.set_cons_zero, List.set_cons_succ]
      refine pt_q (v := ?_) rfl (by rfl) ?_ ?_
      rotate_left
      · intro w' hBw'
        have q0 := hBw'.cell d0 (fun e => by omega)
        first | (go_simp; done) | (go_simp; with_reducible rfl)
      try simp only [Act.put, List.getElem_toArray, List.getElem_cons_zero, List.getElem_cons_succ, List.setIfInBounds_toArray, List.set_cons_zero, List.set_cons_succ]
      refine pt_c ?_
      refine pt_step rfl (by rfl) (fun K hK => ?_)
      go_simp
      rw [set5_same hXd]
      refine hK.out _ _ (But.refl _ _) ?_
      clear hK K
      try simp only [Act.put, List.getElem_toArray, List.getElem_cons_zero, List.getElem_cons_succ, List.setIfInBounds_toArray, List.set_cons_zero, List.set_cons_succ]
      refine pt_c ?_
      refine pt_step rfl (by rfl) (fun K hK => ?_)
      go_simp
      refine hK.out _ _ (But.setCell _ _ _ (.inl (.inl rfl))) ?_
      clear hK K
      try simp only [Act.put, List.getElem_toArray, List.getElem_cons_zero, List.getElem_cons_succ, List.setIfInBounds_toArray, List.set_cons_zero, List.set_cons_succ]
      refine pt_c ?_
      refine pt_step rfl (by rfl) (fun K hK => ?_)
      go_simp
      refine hK.out _ _ (But.setCell _ _ _ (.inl (.inr rfl))) ?_
      clear hK K
      try simp only [Act.put, List.getElem_toArray, List.getElem_cons_zero, List.getElem_cons_succ, List.setIfInBounds_toArray, List.set_cons_zero, List.set_cons_succ]
      refine pt_doneN ?_
      go_wp2
      refine leaves_cons (f := 29) (args := #[.pointer (some ⟨w.heap.size + 1 + 1, 0, none⟩), .func (.func 30) #[] #[.pointer (some ⟨w.heap.size, 0, none⟩), .pointer (some ⟨w.heap.size + 1, 0, none⟩)]]) (by simp) (by have := enters_caught; unfold Enters at this; simp [go_sem, invoke, this]) ?_
      refine (caught_idle ⟨w.heap.size + 1 + 1, 0, none⟩ 30 #[.pointer (some ⟨w.heap.size, 0, none⟩), .pointer (some ⟨w.heap.size + 1, 0, none⟩)] _).mono ?_
      rintro en u' w'' ⟨rfl, rfl, rfl⟩
      have s1' : But (fun q => q = w.heap.size + 1 ∨ q = w.heap.size + 1 + 1) Wd (Wd.setCell ⟨w.heap.size + 1, 0, none⟩ (.int .i64 K)) := But.setCell _ _ _ (.inl (.inl rfl))
      have s2' : But (fun q => q = w.heap.size + 1 ∨ q = w.heap.size + 1 + 1) _ ((Wd.setCell ⟨w.heap.size + 1, 0, none⟩ (.int .i64 K)).setCell ⟨w.heap.size + 1 + 1, 0, none⟩ (.int .i64 0)) := But.setCell _ _ _ (.inl (.inr rfl))
      have hX8 := ((s1'.trans s2').same _ hXd.lt (fun e => by omega)).trans hXd
      have hN7 := hNd.set 0 (.int .i64 K)
      have hN8 : RowAt ((Wd.setCell ⟨w.heap.size + 1, 0, none⟩ (.int .i64 K)).setCell ⟨w.heap.size + 1 + 1, 0, none⟩ (.int .i64 0)) (w.heap.size + 1) _ _ := ((But.setCell (O := fun q => q = w.heap.size + 1 + 1) _ ⟨w.heap.size + 1 + 1, 0, none⟩ (.int .i64 0) (.inl rfl)).same _ hN7.lt (by omega)).trans hN7
      have hE8 := hE7.set 0 (.int .i64 0)
      have r0 := RowAt.cell hX8 (i := 0) rfl
      have r1 := RowAt.cell hX8 (i := 1) rfl
      have r2 := RowAt.cell hX8 (i := 2) rfl
      have r3 := RowAt.cell hX8 (i := 3) rfl
      have r4 := RowAt.cell hX8 (i := 4) rfl
      have q1 := hN8.cell (i := 0) rfl
      have q2 := hE8.cell (i := 0) rfl
      have hbw : Below w.heap.size w Wd := (((hB4.trans (hb5.below (B := w.heap.size) (fun q e => by omega) (by omega))).trans (hb6.below (fun q e => by omega) (by omega)))).trans (hBd.mono (by omega))
      have hz8 := (s1'.trans s2').size
      have hfin : FstE b w (.returned (.tuple #[rwV ⟨k1, n1, .slice ba1 bn1 bc1, s1, .slice la1 ln1 lc1⟩, .int .i64 K, .int .i64 0])) ((Wd.setCell ⟨w.heap.size + 1, 0, none⟩ (.int .i64 K)).setCell ⟨w.heap.size + 1 + 1, 0, none⟩ (.int .i64 0)) := by
        refine ⟨hbw.trans ((s1'.trans s2').below (fun q e => by omega) hbw.size), ?_⟩
        rw [HC.out]
        refine ⟨_, rfl, ItR.turn (fun sz v n cs hs => ?_) _ _ hr5⟩
        refine (((hs.but hb6 (fun q hq e => by omega)).up hBd).but (s1'.trans s2') (fun q hq e => by omega)).mono fun q hq => ⟨by omega, by omega⟩
      simpa [Leaves, settle, results, Tryd.results10, go_sem, r0, r1, r2, r3, r4, q1, q2] using hfin

end Go.Proofs.YtjenohodgpmchaaDoor
