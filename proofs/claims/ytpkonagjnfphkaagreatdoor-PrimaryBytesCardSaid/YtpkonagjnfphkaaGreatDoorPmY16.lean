/-
  CbFi, CbDe, CbPl, CbPm: several texts in one (bundle.py).
-/
import Derived.Test.YtpkonagjnfphkaaGreatDoorPmY15
import Derived.Test.YtpkonagjnfphkaaGreatDoorPmY07
import Derived.Test.YtpkonagjnfphkaaGreatDoorPmY10
set_option linter.unusedSimpArgs false
set_option linter.unusedVariables false
set_option maxRecDepth 100000
set_option maxHeartbeats 4000000
namespace Go.Proofs.YtpkonagjnfphkaaGreatDoor
open Go.RowKit Cb
theorem item_c : ∀ (d i : Nat), d + i = 8 → ∀ (w : World) (D : Nat) (v : Value) (b : List UInt8), RdAt w D v b → b.length ≤ 1000000 → Tabs w → Calls Tryz.prog 126 #[.pointer (some ⟨D, 0, none⟩), .int .i64 i] w (ItE d b w D) := by
  intro d
  induction d with
  | zero => exact fun i hi w D v b _ _ _ => (item_deep w D i (by omega)).mono fun en w' h => ⟨But.of_below h.2, h.1⟩
  | succ d ih => exact fun i hi w D v b h hl hT => item_step d i (by omega) (fun w D v b h hl hT => by have := ih (i + 1) (by omega) w D v b h hl hT; rwa [Int.natCast_add] at this) w D v b h hl hT
namespace Cb
def firstP (b : List UInt8) : Except Int (It × Nat) := if 65536 < b.length then .error 3 else itemP 8 b
end Cb
def FstE (b : List UInt8) (w : World) (en : Ending) (w' : World) : Prop := Below w.heap.size w w' ∧ match firstP b with
  | .error e => en = .returned (.tuple #[zeroIt, .int .i64 0, .int .i64 e])
  | .ok (x, k) => ∃ r, en = .returned (.tuple #[rwV r, .int .i64 k, .int .i64 0]) ∧ ItR (fun j => w.heap.size ≤ j ∧ j < w'.heap.size) w' x r
theorem set5_same {X : Nat} {T : TypeId} {v0 v1 v2 v3 v4 : Value} {w : World} (hX : RowAt w X #[v0, v1, v2, v3, v4] T) : (((((w.setCell ⟨X, 0, none⟩ v0).setCell ⟨X, 1, none⟩ v1).setCell ⟨X, 2, none⟩ v2).setCell ⟨X, 3, none⟩ v3).setCell ⟨X, 4, none⟩ v4) = w := by
  rw [hX.same (i := 0) (v := v0) rfl, hX.same (i := 1) (v := v1) rfl, hX.same (i := 2) (v := v2) rfl, hX.same (i := 3) (v := v3) rfl, hX.same (i := 4) (v := v4) rfl]
theorem cbFirst_c (w : World) (v : Value) (b : List UInt8) (hv : Sl w 1 v b.length (by8 b)) (hT : Tabs w) : Calls Tryz.prog 98 #[v] w (FstE b w) := by
  obtain ⟨a, c, rfl⟩ := hv.len; have hblk := hv.blk (by decide)
  have hmf : ∀ (fn : Fn) (first cap : Array Value) (w : World), (Instr.makeFunc fn first cap).run Tryz.prog w = .ok (.func fn first cap) w := fun _ _ _ _ => rfl
  have XX := ((RowAt.new w #[.int .i64 0, .int .u64 0, .slice none 0 0, .string ⟨#[]⟩, .slice none 0 0] 62).below (below_alloc _ (.cells #[.int .i64 0] 3))).below (below_alloc _ (.cells #[.int .i64 0] 33)); have XN := (RowAt.new (w.alloc (.cells #[.int .i64 0, .int .u64 0, .slice none 0 0, .string ⟨#[]⟩, .slice none 0 0] 62)) #[.int .i64 0] 3).below (below_alloc _ (.cells #[.int .i64 0] 33)); have XE := RowAt.new ((w.alloc (.cells #[.int .i64 0, .int .u64 0, .slice none 0 0, .string ⟨#[]⟩, .slice none 0 0] 62)).alloc (.cells #[.int .i64 0] 3)) #[.int .i64 0] 33; have hB0 : Below w.heap.size w (((w.alloc (.cells #[.int .i64 0, .int .u64 0, .slice none 0 0, .string ⟨#[]⟩, .slice none 0 0] 62)).alloc (.cells #[.int .i64 0] 3)).alloc (.cells #[.int .i64 0] 33)) := ((below_alloc w _).alloc (by simp) _).alloc (by simp; omega) _
  have hz0 : (((w.alloc (.cells #[.int .i64 0, .int .u64 0, .slice none 0 0, .string ⟨#[]⟩, .slice none 0 0] 62)).alloc (.cells #[.int .i64 0] 3)).alloc (.cells #[.int .i64 0] 33)).heap.size = w.heap.size + 3 := by simp
  simp only [World.size_alloc] at XN XE; obtain ⟨W3, hW3⟩ : ∃ W3, (((w.alloc (.cells #[.int .i64 0, .int .u64 0, .slice none 0 0, .string ⟨#[]⟩, .slice none 0 0] 62)).alloc (.cells #[.int .i64 0] 3)).alloc (.cells #[.int .i64 0] 33)) = W3 := ⟨_, rfl⟩; rw [hW3] at XX XN XE hB0 hz0; by_cases hL : 65536 < b.length
  · have HC := Lib.hid (show firstP b = .error 3 by unfold firstP; rw [if_pos hL])
    have hl1 : decide ((b.length : Int) ≤ 65536) = false := decide_eq_false (by omega)
    go_enter_defers Tryz.func98, Tryz.ntmps98
    go_wp2_with (first
      | (go_at_call 125; with_reducible refine (must_no _ _).mono ?_; rintro en w6 ⟨rfl, rfl⟩))
    refine fst_door w.heap.size (w.heap.size + 1) (w.heap.size + 1 + 1) 3 _ _ _ _ _ _ W3 XX XN XE (by omega) (by omega) (by omega) _ _ _ _ _ _ _ _ _ _ _ _ _ _ _ _ _ _ _ _ _ _ (fun W' hb => ⟨?_, by rw [HC.out]⟩); exact hB0.trans (hb.below (fun k e => by omega) hB0.size)
  · have hl1 : decide ((b.length : Int) ≤ 65536) = true := decide_eq_true (by omega)
    have hfp : firstP b = itemP 8 b := by unfold firstP; rw [if_neg hL]
    have hB4 : Below w.heap.size w (W3.alloc (.cells #[.slice a b.length c] 163)) := hB0.alloc hB0.size _
    have hrd : RdAt (W3.alloc (.cells #[.slice a b.length c] 163)) (w.heap.size + 3) (.slice a b.length c) b := by
      refine ⟨?_, (hv.up hB4), hblk.imp id fun f k hk => by have := f k hk; omega⟩; have := RowAt.new W3 #[.slice a b.length c] 163
      rwa [hz0] at this
    have hit := item_c 8 0 rfl (W3.alloc (.cells #[.slice a b.length c] 163)) _ _ b hrd (by omega) (hT.up hB4); have XX4 := XX.alloc (.cells #[.slice a b.length c] 163); have XN4 := XN.alloc (.cells #[.slice a b.length c] 163); have XE4 := XE.alloc (.cells #[.slice a b.length c] 163)
    have hz4 : (W3.alloc (.cells #[.slice a b.length c] 163)).heap.size = w.heap.size + 4 := by rw [World.size_alloc, hz0]
    cases hx : itemP 8 b with
    | error e =>
      have hit : Calls Tryz.prog 126 #[.pointer (some ⟨w.heap.size + 3, 0, none⟩), .int .i64 0] (W3.alloc (.cells #[.slice a b.length c] 163)) (fun en w' => en = .panicked (gup e) ∧ But (fun k => k = w.heap.size + 3) (W3.alloc (.cells #[.slice a b.length c] 163)) w') := hit.mono fun en w' h => ⟨by have := h.2; rw [hx] at this; exact this, h.1⟩
      have HC := Lib.hid (hfp.trans hx); clear hfp hx
      go_enter_defers Tryz.func98, Tryz.ntmps98
      go_wp2_with (first
        | (go_at_call 125; with_reducible refine (must_yes _ _).mono ?_; rintro en w6 ⟨rfl, rfl⟩)
        | (go_at_call 126; refine hit.mono ?_; rintro en w5 ⟨rfl, hb5⟩))
      refine fst_door w.heap.size (w.heap.size + 1) (w.heap.size + 1 + 1) e _ _ _ _ _ _ w5 ((hb5.same _ XX4.lt (by omega)).trans XX4) ((hb5.same _ XN4.lt (by omega)).trans XN4) ((hb5.same _ XE4.lt (by omega)).trans XE4) (by omega) (by omega) (by omega) _ _ _ _ _ _ _ _ _ _ _ _ _ _ _ _ _ _ _ _ _ _ (fun W' hb => ⟨?_, by rw [HC.out]⟩); have h45 := hb5.below (B := w.heap.size) (fun k e => by omega) (by omega); exact (hB4.trans h45).trans (hb.below (fun k e => by omega) (hB4.trans h45).size)
    | ok p =>
      obtain ⟨x, K⟩ := p; have hK := itemP_some _ _ _ _ hx
      have hit : Calls Tryz.prog 126 #[.pointer (some ⟨w.heap.size + 3, 0, none⟩), .int .i64 0] (W3.alloc (.cells #[.slice a b.length c] 163)) (fun en w' => ∃ r v', en = .returned (rwV r) ∧ But (fun k => k = w.heap.size + 3) (W3.alloc (.cells #[.slice a b.length c] 163)) w' ∧ ItR (fun j => (W3.alloc (.cells #[.slice a b.length c] 163)).heap.size ≤ j ∧ j < w'.heap.size) w' x r ∧ RdAt w' (w.heap.size + 3) v' (b.drop K)) := hit.mono fun en w' h => by
        have h2 := h.2; rw [hx] at h2; obtain ⟨r, v', e1, e2, e3⟩ := h2; exact ⟨r, v', e1, h.1, e2, e3⟩
      have HC := Lib.hid (hfp.trans hx); clear hfp hx; have hDL : (b.drop K).length = b.length - K := List.length_drop; have HV := Lib.hid hv; clear hv hrd; obtain ⟨L, hLL⟩ : ∃ L, b.length = L := ⟨_, rfl⟩; rw [hLL] at hit hl1 hDL hK hL hB4 XX4 XN4 XE4 hz4 ⊢
      go_enter_defers Tryz.func98, Tryz.ntmps98
      go_wp2_with (first
        | (go_at_call 125; with_reducible refine (must_yes _ _).mono ?_; rintro en w6 ⟨rfl, rfl⟩)
        | (go_at_call 126; refine hit.mono ?_; rintro en w5 ⟨r5, v5, rfl, hb5, hr5, hR5⟩; have hsh := hr5.shape; obtain ⟨k1, n1, ba1, bn1, bc1, s1, la1, ln1, lc1, rfl⟩ := hsh; have hX5 : RowAt w5 w.heap.size _ _ := (hb5.same _ XX4.lt (by omega)).trans XX4; have hN5 : RowAt w5 (w.heap.size + 1) _ _ := (hb5.same _ XN4.lt (by omega)).trans XN4; have hE5 : RowAt w5 (w.heap.size + 1 + 1) _ _ := (hb5.same _ XE4.lt (by omega)).trans XE4; have e0 := hX5.cell (i := 0) rfl; have e1 := hX5.cell (i := 1) rfl; have e2 := hX5.cell (i := 2) rfl; have e3 := hX5.cell (i := 3) rfl; have e4 := hX5.cell (i := 4) rfl; have g0 := hX5.fz 0; have g1 := hX5.fz 1; have g2 := hX5.fz 2; have g3 := hX5.fz 3; have g4 := hX5.fz 4))
      have hX5 := (hb5.same _ XX4.lt (by omega)).trans XX4; obtain ⟨hX6, hb6⟩ := set5 hX5 (.int .i64 k1) (.int .u64 n1) (.slice ba1 bn1 bc1) (.string s1) (.slice la1 ln1 lc1); have hN6 := (hb6.same _ hN5.lt (by omega)).trans hN5; have hE6 := (hb6.same _ hE5.lt (by omega)).trans hE5; obtain ⟨a6, c6, hv6⟩ := hR5.sl.len; subst hv6; have hD5 := hR5.box; rw [hDL] at hD5; have hD6 : RowAt _ (w.heap.size + 3) _ _ := (hb6.same _ (RowAt.lt hD5) (by omega)).trans hD5; have hN6' : RowAt _ (w.heap.size + 1) _ _ := hN6; have hE6' : RowAt _ (w.heap.size + 1 + 1) _ _ := hE6; have hz5 := hb5.size; have hz6 := hb6.size; obtain ⟨W6, hW6⟩ : ∃ W6, (((((w5.setCell ⟨w.heap.size, 0, none⟩ (.int .i64 k1)).setCell ⟨w.heap.size, 1, none⟩ (.int .u64 n1)).setCell ⟨w.heap.size, 2, none⟩ (.slice ba1 bn1 bc1)).setCell ⟨w.heap.size, 3, none⟩ (.string s1)).setCell ⟨w.heap.size, 4, none⟩ (.slice la1 ln1 lc1)) = W6 := ⟨_, rfl⟩
      rw [hW6] at hX6 hb6 hN6' hE6' hD6 hz6 ⊢; clear e0 e1 e2 e3 e4 g0 g1 g2 g3 g4 hN6 hE6
      have hnum : IntKind.i64.wrap ((L : Int) - ((L - K : Nat) : Int)) = K := by rw [wrap_i64 (by omega) (by omega)]; omega
      refine wp_onlyN ?_; refine wp_region_pt (fun q => q = w.heap.size + 1 ∨ q = w.heap.size + 1 + 1) (.q 0 (.q 1 (.q 2 (.q 3 (.q 4 (.q 5 (.q 6 (.q 7 (.q 8 (.c 9 (.c 10 (.c 11 .done)))))))))))) (by kernel_rfl) (by kernel_rfl) (by kernel_rfl) (by decide) onlyN_panic (fun Wd hBd => ?_)
      try simp only [zq]
      have hXd := hX6.below hBd; have hNd := hN6'.below hBd; have hEd := hE6'.below hBd; have hDd := hD6.below hBd; have d0 := hDd.cell (i := 0) rfl; have hzd := hBd.size; have x0 := hXd.cell (i := 0) rfl; have x1 := hXd.cell (i := 1) rfl; have x2 := hXd.cell (i := 2) rfl; have x3 := hXd.cell (i := 3) rfl; have x4 := hXd.cell (i := 4) rfl; have y0 := hXd.fz 0; have y1 := hXd.fz 1; have y2 := hXd.fz 2; have y3 := hXd.fz 3; have y4 := hXd.fz 4; have n0 := hNd.cell (i := 0) rfl; have z0 := hNd.fz 0; have hE7 : RowAt (Wd.setCell ⟨w.heap.size + 1, 0, none⟩ (.int .i64 K)) (w.heap.size + 1 + 1) _ _ := ((But.setCell (O := fun q => q = w.heap.size + 1) Wd ⟨w.heap.size + 1, 0, none⟩ _ (.inl rfl)).same _ hEd.lt (by omega)).trans hEd; have e0 := hE7.cell (i := 0) rfl; have v0 := hE7.fz 0; refine pt_load rfl (by rfl) 62 (.tmp 2) rfl w.heap.size 0 rfl (rwC ⟨k1, n1, .slice ba1 bn1 bc1, s1, .slice la1 ln1 lc1⟩) _ (RowAt.range (cs := rwC ⟨k1, n1, .slice ba1 bn1 bc1, s1, .slice la1 ln1 lc1⟩) hXd) (by show ¬ _; omega) Tryz.underlying62 rfl (by kernel_rfl) ?_
      try simp only [zq]
      iterate 8
        refine ztg rfl (by rfl) (fun w' hBw' => hBw'.cell d0 (fun e => by omega)) ?_
      refine zc fun K hK => ?_
      go_simp; rw [set5_same hXd]; refine hK.out _ _ (But.refl _ _) ?_; clear hK K
      try simp only [zq]
      refine zc fun K hK => ?_
      go_simp; refine hK.out _ _ (But.setCell _ _ _ (.inl (.inl rfl))) ?_; clear hK K
      try simp only [zq]
      refine zc fun K hK => ?_
      go_simp; refine hK.out _ _ (But.setCell _ _ _ (.inl (.inr rfl))) ?_; clear hK K
      try simp only [zq]
      refine pt_doneN ?_; go_wp2; refine leaves_cons (f := 123) (args := #[.pointer (some ⟨w.heap.size + 1 + 1, 0, none⟩), .func (.func 124) #[] #[.pointer (some ⟨w.heap.size, 0, none⟩), .pointer (some ⟨w.heap.size + 1, 0, none⟩)]]) (by simp) (by have := enters_caught; unfold Enters at this; simp [go_sem, invoke, this]) ?_; refine (caught_idle ⟨w.heap.size + 1 + 1, 0, none⟩ 124 #[.pointer (some ⟨w.heap.size, 0, none⟩), .pointer (some ⟨w.heap.size + 1, 0, none⟩)] _).mono ?_; rintro en u' w'' ⟨rfl, rfl, rfl⟩; have s1' : But (fun q => q = w.heap.size + 1 ∨ q = w.heap.size + 1 + 1) Wd (Wd.setCell ⟨w.heap.size + 1, 0, none⟩ (.int .i64 K)) := But.setCell _ _ _ (.inl (.inl rfl)); have s2' : But (fun q => q = w.heap.size + 1 ∨ q = w.heap.size + 1 + 1) _ ((Wd.setCell ⟨w.heap.size + 1, 0, none⟩ (.int .i64 K)).setCell ⟨w.heap.size + 1 + 1, 0, none⟩ (.int .i64 0)) := But.setCell _ _ _ (.inl (.inr rfl))
      have hX8 := ((s1'.trans s2').same _ hXd.lt (fun e => by omega)).trans hXd; have hN7 := hNd.set 0 (.int .i64 K); have hN8 : RowAt ((Wd.setCell ⟨w.heap.size + 1, 0, none⟩ (.int .i64 K)).setCell ⟨w.heap.size + 1 + 1, 0, none⟩ (.int .i64 0)) (w.heap.size + 1) _ _ := ((But.setCell (O := fun q => q = w.heap.size + 1 + 1) _ ⟨w.heap.size + 1 + 1, 0, none⟩ (.int .i64 0) (.inl rfl)).same _ hN7.lt (by omega)).trans hN7; have hE8 := hE7.set 0 (.int .i64 0); have r0 := RowAt.cell hX8 (i := 0) rfl; have r1 := RowAt.cell hX8 (i := 1) rfl; have r2 := RowAt.cell hX8 (i := 2) rfl; have r3 := RowAt.cell hX8 (i := 3) rfl; have r4 := RowAt.cell hX8 (i := 4) rfl; have q1 := hN8.cell (i := 0) rfl; have q2 := hE8.cell (i := 0) rfl; have hbw : Below w.heap.size w Wd := (((hB4.trans (hb5.below (B := w.heap.size) (fun q e => by omega) (by omega))).trans (hb6.below (fun q e => by omega) (by omega)))).trans (hBd.mono (by omega))
      have hz8 := (s1'.trans s2').size
      have hfin : FstE b w (.returned (.tuple #[rwV ⟨k1, n1, .slice ba1 bn1 bc1, s1, .slice la1 ln1 lc1⟩, .int .i64 K, .int .i64 0])) ((Wd.setCell ⟨w.heap.size + 1, 0, none⟩ (.int .i64 K)).setCell ⟨w.heap.size + 1 + 1, 0, none⟩ (.int .i64 0)) := by
        refine ⟨hbw.trans ((s1'.trans s2').below (fun q e => by omega) hbw.size), ?_⟩; rw [HC.out]; refine ⟨_, rfl, ItR.turn (fun sz v n cs hs => ?_) _ _ hr5⟩
        refine (((hs.but hb6 (fun q hq e => by omega)).up hBd).but (s1'.trans s2') (fun q hq e => by omega)).mono fun q hq => ⟨by omega, by omega⟩
      simpa [Leaves, settle, results, Tryz.results98, go_sem, r0, r1, r2, r3, r4, q1, q2] using hfin
namespace Cb
theorem listP_error {f : List UInt8 → Except Int (It × Nat)} (hf : ∀ b e, f b = .error e → e = 120 ∨ e = 121) : ∀ (n : Nat) (b : List UInt8) (e : Int), listP f n b = .error e → e = 120 ∨ e = 121 := by
  intro n
  induction n with
  | zero => intro b e h; cases h
  | succ n ih =>
    intro b e h; simp only [listP] at h
    cases hx : f b with
    | error e' => rw [hx] at h; cases h; exact hf _ _ hx
    | ok p =>
      rw [hx] at h; simp only at h
      cases hy : listP f n (b.drop p.2) with
      | error e' => rw [hy] at h; cases h; exact ih _ _ hy
      | ok q => rw [hy] at h; cases h
theorem itemP_error : ∀ (d : Nat) (b : List UInt8) (e : Int), itemP d b = .error e → e = 120 ∨ e = 121 := by
  intro d
  induction d with
  | zero => intro b e h; cases h; exact .inl rfl
  | succ d ih =>
    intro b e h; simp only [itemP] at h
    cases hs : simpleP b with
    | some y => rw [hs] at h; cases h
    | none =>
      rw [hs] at h; simp only at h
      cases hh : headP b with
      | none => rw [hh] at h; cases h; exact .inr rfl
      | some p =>
        obtain ⟨m, n, j⟩ := p; rw [hh] at h; simp only [bodyP] at h
        repeat' split at h
        all_goals first
          | (cases h; done)
          | (cases h; exact .inr rfl)
          | (rename_i hl; cases h; exact listP_error ih _ _ _ hl)
theorem firstP_error {b : List UInt8} {e : Int} (h : firstP b = .error e) : e = 3 ∨ e = 120 ∨ e = 121 := by
  unfold firstP at h; split at h
  · cases h; exact .inl rfl
  · exact .inr (itemP_error _ _ _ h)
theorem firstP_some {b : List UInt8} {x : It} {k : Nat} (h : firstP b = .ok (x, k)) : 1 ≤ k ∧ k ≤ b.length ∧ b.length ≤ 65536 := by
  unfold firstP at h; split at h
  · cases h
  · have := itemP_some _ _ _ _ h
    omega
def decP (b : List UInt8) : Except Int It := match firstP b with
  | .error e => .error e
  | .ok (x, k) => if k = b.length then .ok x else .error 121
end Cb
def DecE (b : List UInt8) (w : World) (en : Ending) (w' : World) : Prop := Below w.heap.size w w' ∧ match decP b with
  | .error e => en = .returned (.tuple #[zeroIt, .int .i64 e])
  | .ok x => ∃ r, en = .returned (.tuple #[rwV r, .int .i64 0]) ∧ ItR (fun j => w.heap.size ≤ j ∧ j < w'.heap.size) w' x r
theorem decode_c (w : World) (v : Value) (b : List UInt8) (hv : Sl w 1 v b.length (by8 b)) (hT : Tabs w) : Calls Tryz.prog 59 #[v] w (DecE b w) := by
  obtain ⟨a, c, rfl⟩ := hv.len; have hB0 := below_alloc w (.cells #[.int .i64 0, .int .u64 0, .slice none 0 0, .string ⟨#[]⟩, .slice none 0 0] 62); have XX := RowAt.new w #[.int .i64 0, .int .u64 0, .slice none 0 0, .string ⟨#[]⟩, .slice none 0 0] 62
  have hzr := fun (W : World) => RowAt.new W #[.int .i64 0, .int .u64 0, .slice none 0 0, .string ⟨#[]⟩, .slice none 0 0] 62
  have hfi := cbFirst_c (w.alloc (.cells #[.int .i64 0, .int .u64 0, .slice none 0 0, .string ⟨#[]⟩, .slice none 0 0] 62)) _ b (hv.up hB0) (hT.up hB0)
  cases hp : firstP b with
  | error e =>
    have hfi : Calls Tryz.prog 98 #[.slice a b.length c] (w.alloc (.cells #[.int .i64 0, .int .u64 0, .slice none 0 0, .string ⟨#[]⟩, .slice none 0 0] 62)) (fun en w' => en = .returned (.tuple #[zeroIt, .int .i64 0, .int .i64 e]) ∧ Below (w.alloc (.cells #[.int .i64 0, .int .u64 0, .slice none 0 0, .string ⟨#[]⟩, .slice none 0 0] 62)).heap.size (w.alloc (.cells #[.int .i64 0, .int .u64 0, .slice none 0 0, .string ⟨#[]⟩, .slice none 0 0] 62)) w') := hfi.mono fun en w' h => ⟨by have := h.2; rw [hp] at this; exact this, h.1⟩
    have HC := Lib.hid (show decP b = .error e by unfold decP; rw [hp]); have hcs := firstP_error hp; clear hp
    have he1 : (e == 0) = false := by rw [beq_eq_false_iff_ne]; omega
    have he2 : (e != 0) = true := by rw [bne_iff_ne]; omega
    have he3 : ¬ e = 0 := by omega
    clear hcs; go_enter Tryz.func59, Tryz.ntmps59
    go_wp2_with (go_at_call 98; refine hfi.mono ?_; rintro en w5 ⟨rfl, hb5⟩; have X5 := (XX.below hb5).alloc (.cells #[.int .i64 0, .int .u64 0, .slice none 0 0, .string ⟨#[]⟩, .slice none 0 0] 62); have g0 := X5.fz 0; have g1 := X5.fz 1; have g2 := X5.fz 2; have g3 := X5.fz 3; have g4 := X5.fz 4; have e0 := X5.cell (i := 0) rfl; have e1 := X5.cell (i := 1) rfl; have e2 := X5.cell (i := 2) rfl; have e3 := X5.cell (i := 3) rfl; have e4 := X5.cell (i := 4) rfl)
    obtain ⟨hX6, hb6⟩ := set5 X5 (.int .i64 0) (.int .u64 0) (.slice none 0 0) (.string ⟨#[]⟩) (.slice none 0 0); have r0 := hX6.cell (i := 0) rfl; have r1 := hX6.cell (i := 1) rfl; have r2 := hX6.cell (i := 2) rfl; have r3 := hX6.cell (i := 3) rfl; have r4 := hX6.cell (i := 4) rfl; have hbw := (below_up hB0 hb5).alloc (below_up hB0 hb5).size (.cells #[.int .i64 0, .int .u64 0, .slice none 0 0, .string ⟨#[]⟩, .slice none 0 0] 62); refine bodyPost_ret (v := .tuple #[zeroIt, .int .i64 e]) ?_ rfl ?_
    · simp [results, Tryz.results59, go_sem, r0, r1, r2, r3, r4]
    · exact ⟨hbw.trans (hb6.below (fun q e => by omega) hbw.size), by rw [HC.out]⟩
  | ok p =>
    obtain ⟨x, K⟩ := p; have hK := firstP_some hp
    have hfi : Calls Tryz.prog 98 #[.slice a b.length c] (w.alloc (.cells #[.int .i64 0, .int .u64 0, .slice none 0 0, .string ⟨#[]⟩, .slice none 0 0] 62)) (fun en w' => ∃ r, en = .returned (.tuple #[rwV r, .int .i64 K, .int .i64 0]) ∧ ItR (fun j => (w.alloc (.cells #[.int .i64 0, .int .u64 0, .slice none 0 0, .string ⟨#[]⟩, .slice none 0 0] 62)).heap.size ≤ j ∧ j < w'.heap.size) w' x r ∧ Below (w.alloc (.cells #[.int .i64 0, .int .u64 0, .slice none 0 0, .string ⟨#[]⟩, .slice none 0 0] 62)).heap.size (w.alloc (.cells #[.int .i64 0, .int .u64 0, .slice none 0 0, .string ⟨#[]⟩, .slice none 0 0] 62)) w') := hfi.mono fun en w' h => by
      have h2 := h.2; rw [hp] at h2; obtain ⟨r, e1, e2⟩ := h2; exact ⟨r, e1, e2, h.1⟩
    by_cases hKL : K = b.length
    · have HC := Lib.hid (show decP b = .ok x by unfold decP; rw [hp]; simp only; rw [if_pos hKL])
      rw [hKL] at hfi; clear hp; go_enter Tryz.func59, Tryz.ntmps59
      go_wp2_with (go_at_call 98; refine hfi.mono ?_; rintro en w5 ⟨r5, rfl, hr5, hb5⟩; have hsh := hr5.shape; obtain ⟨k1, n1, ba1, bn1, bc1, s1, la1, ln1, lc1, rfl⟩ := hsh; have X5 := (XX.below hb5).alloc (.cells #[.int .i64 k1, .int .u64 n1, .slice ba1 bn1 bc1, .string s1, .slice la1 ln1 lc1] 62); have Y5 := RowAt.new w5 #[.int .i64 k1, .int .u64 n1, .slice ba1 bn1 bc1, .string s1, .slice la1 ln1 lc1] 62; have y0 := Y5.cell (i := 0) rfl; have y1 := Y5.cell (i := 1) rfl; have y2 := Y5.cell (i := 2) rfl; have y3 := Y5.cell (i := 3) rfl; have y4 := Y5.cell (i := 4) rfl; have g0 := X5.fz 0; have g1 := X5.fz 1; have g2 := X5.fz 2; have g3 := X5.fz 3; have g4 := X5.fz 4; have e0 := X5.cell (i := 0) rfl; have e1 := X5.cell (i := 1) rfl; have e2 := X5.cell (i := 2) rfl; have e3 := X5.cell (i := 3) rfl; have e4 := X5.cell (i := 4) rfl)
      obtain ⟨hX6, hb6⟩ := set5 X5 (.int .i64 k1) (.int .u64 n1) (.slice ba1 bn1 bc1) (.string s1) (.slice la1 ln1 lc1); have r0 := hX6.cell (i := 0) rfl; have r1 := hX6.cell (i := 1) rfl; have r2 := hX6.cell (i := 2) rfl; have r3 := hX6.cell (i := 3) rfl; have r4 := hX6.cell (i := 4) rfl; have hB5 := below_up hB0 hb5; have hbw := hB5.alloc hB5.size (.cells #[.int .i64 k1, .int .u64 n1, .slice ba1 bn1 bc1, .string s1, .slice la1 ln1 lc1] 62); have hz6 := hb6.size; simp only [World.size_alloc] at hz6; refine bodyPost_ret (v := .tuple #[rwV ⟨k1, n1, .slice ba1 bn1 bc1, s1, .slice la1 ln1 lc1⟩, .int .i64 0]) ?_ rfl ?_
      · simp [results, Tryz.results59, go_sem, r0, r1, r2, r3, r4]
      refine ⟨hbw.trans (hb6.below (fun q e => by omega) hbw.size), ?_⟩; rw [HC.out]; refine ⟨_, rfl, ItR.turn (fun sz v n cs hs => ?_) _ _ hr5⟩
      refine ((hs.up (below_alloc _ _)).but hb6 (fun q hq e => by rw [World.size_alloc] at hq; omega)).mono fun q hq => ?_
      rw [World.size_alloc] at hq; exact ⟨by omega, by omega⟩
    · have HC := Lib.hid (show decP b = .error 121 by unfold decP; rw [hp]; simp only; rw [if_neg hKL])
      have hne : ((K : Int) != (b.length : Int)) = true := by rw [bne_iff_ne]; omega
      have hne2 : ((K : Int) == (b.length : Int)) = false := by rw [beq_eq_false_iff_ne]; omega
      have hne3 : ¬ ((K : Int) = (b.length : Int)) := by omega
      clear hp; go_enter Tryz.func59, Tryz.ntmps59
      go_wp2_with (go_at_call 98; refine hfi.mono ?_; rintro en w5 ⟨r5, rfl, hr5, hb5⟩; have hsh := hr5.shape; obtain ⟨k1, n1, ba1, bn1, bc1, s1, la1, ln1, lc1, rfl⟩ := hsh; have X5 := (XX.below hb5).alloc (.cells #[.int .i64 k1, .int .u64 n1, .slice ba1 bn1 bc1, .string s1, .slice la1 ln1 lc1] 62); have g0 := X5.fz 0; have g1 := X5.fz 1; have g2 := X5.fz 2; have g3 := X5.fz 3; have g4 := X5.fz 4; have e0 := X5.cell (i := 0) rfl; have e1 := X5.cell (i := 1) rfl; have e2 := X5.cell (i := 2) rfl; have e3 := X5.cell (i := 3) rfl; have e4 := X5.cell (i := 4) rfl)
      obtain ⟨hX6, hb6⟩ := set5 X5 (.int .i64 0) (.int .u64 0) (.slice none 0 0) (.string ⟨#[]⟩) (.slice none 0 0); have r0 := hX6.cell (i := 0) rfl; have r1 := hX6.cell (i := 1) rfl; have r2 := hX6.cell (i := 2) rfl; have r3 := hX6.cell (i := 3) rfl; have r4 := hX6.cell (i := 4) rfl; have hB5 := below_up hB0 hb5; have hbw := hB5.alloc hB5.size (.cells #[.int .i64 k1, .int .u64 n1, .slice ba1 bn1 bc1, .string s1, .slice la1 ln1 lc1] 62); refine bodyPost_ret (v := .tuple #[zeroIt, .int .i64 121]) ?_ rfl ?_
      · simp [results, Tryz.results59, go_sem, r0, r1, r2, r3, r4]
      · exact ⟨hbw.trans (hb6.below (fun q e => by omega) hbw.size), by rw [HC.out]⟩
namespace Cb
mutual
def nOk : It → Prop
  | .mk _ n _ _ l => (0 ≤ n ∧ n ≤ 18446744073709551615) ∧ nOkL l
def nOkL : List It → Prop
  | [] => True
  | x :: l => nOk x ∧ nOkL l
end
theorem nOk_eq (x : It) : nOk x ↔ (0 ≤ x.n ∧ x.n ≤ 18446744073709551615) ∧ nOkL x.l := by cases x; exact Iff.rfl
theorem nOkL_mem : ∀ {l : List It} {x : It}, nOkL l → x ∈ l → nOk x
  | y :: l, x, h, hx => by
    simp only [nOkL] at h; rcases List.mem_cons.1 hx with rfl | hx
    · exact h.1
    · exact nOkL_mem h.2 hx
theorem nOkL_all : ∀ {l : List It}, (∀ x ∈ l, nOk x) → nOkL l
  | [], _ => trivial
  | y :: l, h => ⟨h y (by simp), nOkL_all fun x hx => h x (by simp [hx])⟩
end Cb
theorem ItR.nOk {S : Nat → Prop} {w : World} : ∀ (x : It) (r : Rw), ItR S w x r → Cb.nOk x := by
  intro x
  induction x using It.ind with
  | h x ih =>
    intro r h; obtain ⟨rows, p⟩ := h.parts; refine (nOk_eq x).2 ⟨⟨p.lo, p.hi⟩, nOkL_all fun y hy => ?_⟩; obtain ⟨i, hi, rfl⟩ := List.getElem_of_mem hy; exact ih _ hy _ (p.each.get hi (by have := p.each.len; omega))
namespace Cb
end Cb
namespace Cb
structure Got (d : Nat) (b : List UInt8) (x : It) (k : Nat) : Prop where
  bytes : bytesOf x = b.take k
  right : rightB x = true
  deep : depth x ≤ d
  many : cnt x ≤ k
  num : nOk x
theorem runes_none : (runes noS).2 = true := by decide
theorem right_flat {k n : Int} {b : List UInt8} {s : ByteArray} (h : ownB (.mk k n b s []) = true) : rightB (.mk k n b s []) = true := by
  rw [rightB_eq, h]; rfl
theorem simple_got {d : Nat} {b : List UInt8} {x : It} (h : simpleP b = some x) : Got (d + 1) b x 1 := by
  cases b with
  | nil => cases h
  | cons f r =>
    simp only [simpleP] at h; split at h
    · rename_i e
      cases h; subst e; exact ⟨by first | (simp [bytesOf_eq, It.k, It.n]; done) | (simp [bytesOf_eq, It.k, It.n]; decide), right_flat (by decide), by simp [depth, depthL], by simp [cnt, cntL, noS, ByteArray.size], ⟨⟨by decide, by decide⟩, trivial⟩⟩
    · split at h
      · rename_i e
        cases h; subst e; exact ⟨by first | (simp [bytesOf_eq, It.k, It.n]; done) | (simp [bytesOf_eq, It.k, It.n]; decide), right_flat (by decide), by simp [depth, depthL], by simp [cnt, cntL, noS, ByteArray.size], ⟨⟨by decide, by decide⟩, trivial⟩⟩
      · split at h
        · rename_i e
          cases h; subst e; exact ⟨by simp [bytesOf_eq, It.k, It.n], right_flat (by decide), by simp [depth, depthL], by simp [cnt, cntL, noS, ByteArray.size], ⟨⟨by decide, by decide⟩, trivial⟩⟩
        · cases h
theorem list_got {d : Nat} {f : List UInt8 → Except Int (It × Nat)} (hf : ∀ b x k, f b = .ok (x, k) → Got d b x k ∧ 1 ≤ k ∧ k ≤ b.length) : ∀ (n : Nat) (b : List UInt8) (l : List It) (c : Nat), listP f n b = .ok (l, c) → bytesL l = b.take c ∧ rightL l = true ∧ depthL l ≤ d ∧ cntL l ≤ c ∧ nOkL l := by
  intro n
  induction n with
  | zero =>
    intro b l c h; simp only [listP, Except.ok.injEq, Prod.mk.injEq] at h; obtain ⟨rfl, rfl⟩ := h; exact ⟨by simp [bytesL], rfl, Nat.zero_le _, Nat.le_refl _, trivial⟩
  | succ n ih =>
    intro b l c h; simp only [listP] at h
    cases hx : f b with
    | error e => rw [hx] at h; cases h
    | ok p =>
      obtain ⟨x, k⟩ := p; rw [hx] at h; simp only at h
      cases hy : listP f n (b.drop k) with
      | error e => rw [hy] at h; cases h
      | ok q =>
        obtain ⟨l', j⟩ := q; rw [hy] at h; simp only [Except.ok.injEq, Prod.mk.injEq] at h; obtain ⟨rfl, rfl⟩ := h; obtain ⟨h1, h2⟩ := hf _ _ _ hx; obtain ⟨g1, g2, g3, g4, g5⟩ := ih _ _ _ hy; refine ⟨?_, ?_, ?_, ?_, ?_⟩
        · rw [bytesL, h1.bytes, g1, List.take_add]
        · rw [rightL, h1.right, g2]; rfl
        · rw [depthL]; have := h1.deep; omega
        · rw [cntL]; have := h1.many; omega
        · exact ⟨h1.num, g5⟩
theorem item_got : ∀ (d : Nat) (b : List UInt8) (x : It) (k : Nat), itemP d b = .ok (x, k) → Got d b x k := by
  intro d
  induction d with
  | zero => intro b x k h; cases h
  | succ d ih =>
    intro b x k h; have hb := itemP_some _ _ _ _ h; simp only [itemP] at h
    cases hs : simpleP b with
    | some y =>
      rw [hs] at h; simp only [Except.ok.injEq, Prod.mk.injEq] at h; obtain ⟨rfl, rfl⟩ := h; exact simple_got hs
    | none =>
      rw [hs] at h; simp only at h
      cases hh : headP b with
      | none => rw [hh] at h; cases h
      | some p =>
        obtain ⟨m, n, j⟩ := p; rw [hh] at h; simp only at h; obtain ⟨⟨hm0, hm7⟩, ⟨hn0, hn1⟩, hj1, hjb, htk, hlen⟩ := headP_some hh; obtain ⟨N, rfl⟩ : ∃ N : Nat, n = N := ⟨n.toNat, by omega⟩; have hdl : (b.drop j).length = b.length - j := List.length_drop; unfold bodyP at h; split at h
        · rename_i e
          subst e; simp only [Except.ok.injEq, Prod.mk.injEq] at h; obtain ⟨rfl, rfl⟩ := h; exact ⟨by rw [htk]; simp [bytesOf_eq, It.k, It.n], right_flat (by simp [ownB, bareB, It.k, It.n, It.b, It.s, It.l, runes_none, noS, ByteArray.size]), by simp [depth, depthL], by simp [cnt, cntL, noS, ByteArray.size]; omega, ⟨⟨hn0, hn1⟩, trivial⟩⟩
        · split at h
          · rename_i e
            subst e; split at h
            · rename_i hl
              simp only [Except.ok.injEq, Prod.mk.injEq, Int.toNat_natCast] at h; obtain ⟨rfl, rfl⟩ := h
              have hln : ((b.drop j).take N).length = N := by rw [List.length_take]; omega
              refine ⟨?_, right_flat (by simp [ownB, bareB, It.k, It.n, It.b, It.s, It.l, runes_none, noS, ByteArray.size]), by simp [depth, depthL], ?_, ⟨⟨by decide, by decide⟩, trivial⟩⟩
              · rw [show bytesOf (.mk 2 0 ((b.drop j).take N) noS []) = headB 2 ((b.drop j).take N).length ++ (b.drop j).take N from rfl, hln, ← htk, List.take_add]
              · simp only [cnt, cntL, hln, noS, ByteArray.size]; simp; omega
            · cases h
          · split at h
            · rename_i e
              subst e; split at h
              · rename_i hl
                simp only [Except.ok.injEq, Prod.mk.injEq, Int.toNat_natCast] at h hl; obtain ⟨rfl, rfl⟩ := h
                have hln : ((b.drop j).take N).length = N := by rw [List.length_take]; omega
                have hsz : (⟨((b.drop j).take N).toArray⟩ : ByteArray).size = N := by
                  show ((b.drop j).take N).toArray.size = N; rw [List.size_toArray]; exact hln
                refine ⟨?_, right_flat ?_, by simp [depth, depthL], ?_, ⟨⟨by decide, by decide⟩, trivial⟩⟩
                · rw [show bytesOf (.mk 3 0 [] ⟨((b.drop j).take N).toArray⟩ []) = headB 3 (⟨((b.drop j).take N).toArray⟩ : ByteArray).size ++ (b.drop j).take N from rfl, hsz, ← htk, List.take_add]
                · have := hl.2
                  simp only [ownB, bareB, It.k, It.n, It.b, It.s, It.l, this]; simp
                · simp only [cnt, cntL, hsz]; simp; omega
              · cases h
            · split at h
              · rename_i e
                subst e
                cases hl : listP (itemP d) (N : Int).toNat (b.drop j) with
                | error e => rw [hl] at h; cases h
                | ok q =>
                  obtain ⟨l, c⟩ := q; rw [hl] at h; simp only [Except.ok.injEq, Prod.mk.injEq] at h; obtain ⟨rfl, rfl⟩ := h; have hll := listP_some (itemP_some d) _ _ _ _ hl; rw [Int.toNat_natCast] at hll; obtain ⟨g1, g2, g3, g4, g5⟩ := list_got (d := d) (fun b x k h => ⟨ih b x k h, itemP_some _ _ _ _ h⟩) _ _ _ _ hl; refine ⟨?_, ?_, ?_, ?_, ⟨⟨by decide, by decide⟩, g5⟩⟩
                  · rw [show bytesOf (.mk 4 0 [] noS l) = headB 4 l.length ++ bytesL l from rfl, g1, hll.1, ← htk, List.take_add]
                  · rw [rightB_eq, Bool.and_eq_true]
                    exact ⟨by simp [ownB, bareB, It.k, It.n, It.b, It.s, It.l, runes_none, noS, ByteArray.size], g2⟩
                  · simp only [depth]; omega
                  · simp only [cnt, noS, ByteArray.size]; simp; omega
              · cases h
theorem first_got {b : List UInt8} {x : It} {k : Nat} (h : firstP b = .ok (x, k)) : Got 8 b x k ∧ chk x = 0 ∧ cnt x ≤ 65536 := by
  have hb := firstP_some h; unfold firstP at h; split at h
  · cases h
  · have g := item_got _ _ _ _ h
    refine ⟨g, ?_, by have := g.many; omega⟩; unfold chk; rw [if_neg (by rw [g.right]; decide), if_neg (by have := g.deep; omega), if_neg]; rw [g.bytes, List.length_take]; omega
theorem dec_got {b : List UInt8} {x : It} (h : decP b = .ok x) : bytesOf x = b ∧ chk x = 0 ∧ cnt x ≤ 65536 ∧ rightB x = true ∧ nOk x := by
  unfold decP at h
  cases hf : firstP b with
  | error e => rw [hf] at h; cases h
  | ok p =>
    obtain ⟨y, k⟩ := p; rw [hf] at h; simp only at h; split at h
    · rename_i e
      cases h; obtain ⟨g, hc, hn⟩ := first_got hf; exact ⟨by rw [g.bytes, e, List.take_length], hc, hn, g.right, g.num⟩
    · cases h
end Cb
end Go.Proofs.YtpkonagjnfphkaaGreatDoor
