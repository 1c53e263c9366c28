/-
  CbRf: several texts in one (bundle.py).
-/
import Derived.Test.YtpkonagjnfphkaaGreatDoorPmY38
import Derived.Test.YtpkonagjnfphkaaGreatDoorPmY16
set_option linter.unusedSimpArgs false
set_option linter.unusedVariables false
set_option maxRecDepth 100000
set_option maxHeartbeats 8000000
namespace Go.Proofs.YtpkonagjnfphkaaGreatDoor
open Go.RowKit Cb
def FrE (d : Nat) (b : List UInt8) (w : World) (en : Ending) (w' : World) : Prop := Below w.heap.size w w' ∧ match itemP d b with
  | .error e => en = .returned (.tuple #[zeroIt, .int .i64 0, .int .i64 e])
  | .ok (x, k) => ∃ r, en = .returned (.tuple #[rwV r, .int .i64 k, .int .i64 0]) ∧ ItR (fun j => w.heap.size ≤ j ∧ j < w'.heap.size) w' x r
theorem frE_err {d : Nat} {b : List UInt8} {w w' : World} {e : Int} (hp : itemP d b = .error e) (hb : Below w.heap.size w w') : FrE d b w (.returned (.tuple #[zeroIt, .int .i64 0, .int .i64 e])) w' := ⟨hb, by rw [hp]⟩
theorem frE_ok {d : Nat} {b : List UInt8} {w w' : World} {x : It} {k : Nat} {K : Int} {r : Rw} (hp : itemP d b = .ok (x, k)) (hK : K = k) (hb : Below w.heap.size w w') (hr : ItR (fun j => w.heap.size ≤ j ∧ j < w'.heap.size) w' x r) : FrE d b w (.returned (.tuple #[rwV r, .int .i64 K, .int .i64 0])) w' := ⟨hb, by rw [hp]; exact ⟨r, by rw [hK], hr⟩⟩
structure LrAt (w0 : World) (d : Nat) (r : List UInt8) (X : Nat) (j c : Nat) (l : List It) (rows : List Rw) (lv : Value) (W : World) : Prop where
  below : Below w0.heap.size w0 W
  lst : listP (itemP d) j r = .ok (l, c)
  box : RowAt W X #[.int .i64 4, .int .u64 0, .slice none 0 0, .string ⟨#[]⟩, lv] TI
  own : W.ownsRow (X + 1) TI 5 lv j (rows.flatMap rwC)
  its : ItsR (fun k => X < k ∧ k < W.heap.size ∧ lv.ownBlock ≠ some k) W l rows
  bx : RowAt W w0.heap.size #[.int .i64 0, .int .u64 0, .slice none 0 0, .string ⟨#[]⟩, .slice none 0 0] TI
theorem LrAt.up {w0 : World} {d : Nat} {r : List UInt8} {X : Nat} {j c : Nat} {l : List It} {rows : List Rw} {lv : Value} {W W' : World} (h : LrAt w0 d r X j c l rows lv W) (hb : Below W.heap.size W W') : LrAt w0 d r X j c l rows lv W' :=
  ⟨below_up h.below hb, h.lst, h.box.below hb, own_up h.own hb, h.its.turn (fun sz v n cs hs => (hs.up hb).mono fun q hq => ⟨hq.1, Nat.lt_of_lt_of_le hq.2.1 hb.size, hq.2.2⟩), h.bx.below hb⟩
theorem LrAt.step {w0 : World} {d : Nat} {r : List UInt8} {X : Nat} {j c : Nat} {l : List It} {rows : List Rw} {lv : Value} {W : World} (h : LrAt w0 d r X j c l rows lv W) (hwX : w0.heap.size < X)
    {x : It} {k : Nat} {rr : Rw} {W2 W3 : World} (hx : itemP d (r.drop c) = .ok (x, k)) (hr : ItR (fun j => W.heap.size ≤ j ∧ j < W2.heap.size) W2 x rr)
    (h2 : Below W.heap.size W W2) {v3 : Value} (ho : W3.ownsRow (X + 1) TI 5 v3 (j + 1) (rows.flatMap rwC ++ rwC rr)) (h3 : But (fun k => lv.ownBlock = some k) W2 W3) (hb3 : v3.ownBlock = lv.ownBlock ∨ v3.ownBlock = some W2.heap.size) :
    LrAt w0 d r X (j + 1) (c + k) (l ++ [x]) (rows ++ [rr]) v3 (W3.setCell ⟨X, 4, none⟩ v3) := by
  have hXW := h.box.lt; have hs2 := h2.size; have hs3 := h3.size; have hs0 := h.below.size
  have hlv : ∀ k, lv.ownBlock = some k → X < k ∧ k < W.heap.size := fun k hk => by have := own_of_some h.own hk; omega
  have s4 : But (fun k => k = X) W3 (W3.setCell ⟨X, 4, none⟩ v3) := But.setCell _ _ _ (.inl rfl)
  have hs4 : (W3.setCell ⟨X, 4, none⟩ v3).heap.size = W3.heap.size := by simp [World.setCell]
  have hb13 : But (fun k => lv.ownBlock = some k) W W3 := (But.of_below h2).trans h3; have hall : Below w0.heap.size w0 (W3.setCell ⟨X, 4, none⟩ v3) := ((h.below.trans (hb13.below (fun q e => by have := hlv q e; omega) hs0))).trans (s4.below (fun q e => by omega) (by omega)); have hX3 : RowAt W3 X _ TI := (hb13.same _ hXW (fun e => by have := hlv X e; omega)).trans h.box
  have hv3 : ∀ k, v3.ownBlock = some k → X < k := fun k hk => by have := own_of_some ho hk; omega
  refine ⟨hall, listP_snoc _ _ _ _ _ _ h.lst hx, hX3.set 4 v3, ?_, ?_, ?_⟩
  · rw [List.flatMap_append, List.flatMap_singleton]
    exact own_but ho s4 (fun q hq e => by have := hv3 q hq; omega)
  · refine ItsR.snoc (h.its.turn fun sz v n cs hsl => ?_) (ItR.turn (fun sz v n cs hsl => ?_) _ _ hr)
    · have := ((hsl.but hb13 (fun q hq e => hq.2.2 e)).but s4 (fun q hq e => by omega))
      refine this.mono fun q hq => ⟨hq.1, by rw [hs4]; omega, fun e => ?_⟩
      rcases hb3 with e3 | e3
      · exact hq.2.2 (e3.symm.trans e)
      · have := e3.symm.trans e; have := Option.some.inj this; omega
    · have := ((hsl.but h3 (fun q hq e => by have := hlv q e; omega)).but s4 (fun q hq e => by omega))
      refine this.mono fun q hq => ⟨by omega, by rw [hs4]; omega, fun e => ?_⟩
      rcases hb3 with e3 | e3
      · have := hlv q (e3.symm.trans e); omega
      · have := e3.symm.trans e; have := Option.some.inj this; omega
  · have e1 := (hb13.same _ h.bx.lt (fun e => by have := hlv _ e; omega)).trans h.bx
    exact (s4.same _ (RowAt.lt e1) (fun e => by omega)).trans e1
theorem firstR_deep (w : World) (v : Value) (b : List UInt8) (i : Int) (hi : 8 ≤ i) : Calls Tryz.prog 130 #[v, .int .i64 i] w (FrE 0 b w) := by
  have hd : decide (8 ≤ i) = true := decide_eq_true hi; have hd2 : decide (i ≥ 8) = true := decide_eq_true hi; have hB0 := below_alloc w (.cells #[.int .i64 0, .int .u64 0, .slice none 0 0, .string ⟨#[]⟩, .slice none 0 0] 62); have hbx := RowAt.new w #[.int .i64 0, .int .u64 0, .slice none 0 0, .string ⟨#[]⟩, .slice none 0 0] 62; have hz0 : (w.alloc (.cells #[.int .i64 0, .int .u64 0, .slice none 0 0, .string ⟨#[]⟩, .slice none 0 0] 62)).heap.size = w.heap.size + 1 := World.size_alloc _ _; obtain ⟨W0, hW0⟩ : ∃ W, w.alloc (.cells #[.int .i64 0, .int .u64 0, .slice none 0 0, .string ⟨#[]⟩, .slice none 0 0] 62) = W := ⟨_, rfl⟩; rw [hW0] at hB0 hbx hz0; have e0 := RowAt.cell hbx (i := 0) rfl; have e1 := RowAt.cell hbx (i := 1) rfl; have e2 := RowAt.cell hbx (i := 2) rfl; have e3 := RowAt.cell hbx (i := 3) rfl
  have e4 := RowAt.cell hbx (i := 4) rfl; have g0 := RowAt.fz hbx 0; have g1 := RowAt.fz hbx 1; have g2 := RowAt.fz hbx 2; have g3 := RowAt.fz hbx 3; have g4 := RowAt.fz hbx 4; have HP := Lib.hid (show itemP 0 b = .error 120 from rfl); go_enter Tryz.func130, Tryz.ntmps130; go_wp2; obtain ⟨hX9, hb9⟩ := set5 hbx (.int .i64 0) (.int .u64 0) (.slice none 0 0) (.string ⟨#[]⟩) (.slice none 0 0); have r0 := RowAt.cell hX9 (i := 0) rfl; have r1 := RowAt.cell hX9 (i := 1) rfl; have r2 := RowAt.cell hX9 (i := 2) rfl; have r3 := RowAt.cell hX9 (i := 3) rfl; have r4 := RowAt.cell hX9 (i := 4) rfl; have hbw := hB0; have hz9 := hb9.size; refine bodyPost_ret (v := .tuple #[zeroIt, .int .i64 0, .int .i64 120]) ?_ rfl ?_
  · simp [results, Tryz.results130, go_sem, r0, r1, r2, r3, r4]
  · exact frE_err HP.out (hbw.trans (hb9.below (fun q e => by omega) hbw.size))
theorem simpleP_out {f : UInt8} {r : List UInt8} (h : f.toNat < 244 ∨ 246 < f.toNat) : simpleP (f :: r) = none := by
  simp only [simpleP]; rw [if_neg (fun e => by subst e; revert h; decide), if_neg (fun e => by subst e; revert h; decide), if_neg (fun e => by subst e; revert h; decide)]
theorem firstR_simple (d i : Nat) (hdi : d + i = 7) (w : World) (v : Value) (f : UInt8) (r : List UInt8) (L : Nat) (hL : L = r.length + 1) (hv : Sl w 1 v L (by8 (f :: r))) (hbl : L ≤ 1000000) (hf : 244 ≤ f.toNat ∧ f.toNat ≤ 246) :
    Calls Tryz.prog 130 #[v, .int .i64 i] w (FrE (d + 1) (f :: r) w) := by
  obtain ⟨a, c, rfl⟩ := hv.len; obtain ⟨g, off, ha, hcu⟩ := hv.cellAt (k := 0) (by omega) (by omega); subst ha; simp only [Nat.add_zero] at hcu; rw [show (by8 (f :: r))[0]? = some (.int .u8 f.toNat) from rfl] at hcu; have hd : decide (8 ≤ (i : Int)) = false := decide_eq_false (by omega); have hd2 : decide ((i : Int) ≥ 8) = false := decide_eq_false (by omega); have hB0 := below_alloc w (.cells #[.int .i64 0, .int .u64 0, .slice none 0 0, .string ⟨#[]⟩, .slice none 0 0] 62); have hbx := RowAt.new w #[.int .i64 0, .int .u64 0, .slice none 0 0, .string ⟨#[]⟩, .slice none 0 0] 62; have hz0 : (w.alloc (.cells #[.int .i64 0, .int .u64 0, .slice none 0 0, .string ⟨#[]⟩, .slice none 0 0] 62)).heap.size = w.heap.size + 1 := World.size_alloc _ _; obtain ⟨W0, hW0⟩ : ∃ W, w.alloc (.cells #[.int .i64 0, .int .u64 0, .slice none 0 0, .string ⟨#[]⟩, .slice none 0 0] 62) = W := ⟨_, rfl⟩
  rw [hW0] at hB0 hbx hz0; have e0 := RowAt.cell hbx (i := 0) rfl; have e1 := RowAt.cell hbx (i := 1) rfl; have e2 := RowAt.cell hbx (i := 2) rfl; have e3 := RowAt.cell hbx (i := 3) rfl; have e4 := RowAt.cell hbx (i := 4) rfl; have g0 := RowAt.fz hbx 0; have g1 := RowAt.fz hbx 1; have g2 := RowAt.fz hbx 2; have g3 := RowAt.fz hbx 3; have g4 := RowAt.fz hbx 4; have hcu := cell_up hB0 hcu
  have hLp : 0 < L := by omega
  have hLd : decide (0 < (L : Int)) = true := decide_eq_true (by omega); have HL := Lib.hid hL; clear hL hv
  have hcs : f.toNat = 244 ∨ f.toNat = 245 ∨ f.toNat = 246 := by omega
  rcases hcs with e | e | e
  · rw [e] at hcu
    have HP := Lib.hid (show itemP (d + 1) (f :: r) = .ok (.mk 5 0 [] noS [], 1) by simp only [itemP, simpleP]; rw [show f = 244 from UInt8.toNat_inj.1 e]; rfl); go_enter Tryz.func130, Tryz.ntmps130; go_wp2; obtain ⟨hX9, hb9⟩ := set5 hbx (.int .i64 5) (.int .u64 0) (.slice none 0 0) (.string ⟨#[]⟩) (.slice none 0 0); have r0 := RowAt.cell hX9 (i := 0) rfl; have r1 := RowAt.cell hX9 (i := 1) rfl; have r2 := RowAt.cell hX9 (i := 2) rfl; have r3 := RowAt.cell hX9 (i := 3) rfl; have r4 := RowAt.cell hX9 (i := 4) rfl; have hbw := hB0; have hz9 := hb9.size; refine bodyPost_ret (v := .tuple #[rwV ⟨5, 0, .slice none 0 0, ⟨#[]⟩, .slice none 0 0⟩, .int .i64 1, .int .i64 0]) ?_ rfl ?_
    · simp [results, Tryz.results130, go_sem, r0, r1, r2, r3, r4]
    · exact frE_ok HP.out rfl (hbw.trans (hb9.below (fun q e => by omega) hbw.size)) (itR_flat (by decide) (by decide) slS_nil)
  · rw [e] at hcu
    have HP := Lib.hid (show itemP (d + 1) (f :: r) = .ok (.mk 5 1 [] noS [], 1) by simp only [itemP, simpleP]; rw [show f = 245 from UInt8.toNat_inj.1 e]; rfl); go_enter Tryz.func130, Tryz.ntmps130; go_wp2; obtain ⟨hX9, hb9⟩ := set5 hbx (.int .i64 5) (.int .u64 1) (.slice none 0 0) (.string ⟨#[]⟩) (.slice none 0 0); have r0 := RowAt.cell hX9 (i := 0) rfl; have r1 := RowAt.cell hX9 (i := 1) rfl; have r2 := RowAt.cell hX9 (i := 2) rfl; have r3 := RowAt.cell hX9 (i := 3) rfl; have r4 := RowAt.cell hX9 (i := 4) rfl; have hbw := hB0; have hz9 := hb9.size; refine bodyPost_ret (v := .tuple #[rwV ⟨5, 1, .slice none 0 0, ⟨#[]⟩, .slice none 0 0⟩, .int .i64 1, .int .i64 0]) ?_ rfl ?_
    · simp [results, Tryz.results130, go_sem, r0, r1, r2, r3, r4]
    · exact frE_ok HP.out rfl (hbw.trans (hb9.below (fun q e => by omega) hbw.size)) (itR_flat (by decide) (by decide) slS_nil)
  · rw [e] at hcu
    have HP := Lib.hid (show itemP (d + 1) (f :: r) = .ok (.mk 6 0 [] noS [], 1) by simp only [itemP, simpleP]; rw [show f = 246 from UInt8.toNat_inj.1 e]; rfl); go_enter Tryz.func130, Tryz.ntmps130; go_wp2; obtain ⟨hX9, hb9⟩ := set5 hbx (.int .i64 6) (.int .u64 0) (.slice none 0 0) (.string ⟨#[]⟩) (.slice none 0 0); have r0 := RowAt.cell hX9 (i := 0) rfl; have r1 := RowAt.cell hX9 (i := 1) rfl; have r2 := RowAt.cell hX9 (i := 2) rfl; have r3 := RowAt.cell hX9 (i := 3) rfl; have r4 := RowAt.cell hX9 (i := 4) rfl; have hbw := hB0; have hz9 := hb9.size; refine bodyPost_ret (v := .tuple #[rwV ⟨6, 0, .slice none 0 0, ⟨#[]⟩, .slice none 0 0⟩, .int .i64 1, .int .i64 0]) ?_ rfl ?_
    · simp [results, Tryz.results130, go_sem, r0, r1, r2, r3, r4]
    · exact frE_ok HP.out rfl (hbw.trans (hb9.below (fun q e => by omega) hbw.size)) (itR_flat (by decide) (by decide) slS_nil)
theorem firstR_nil (d i : Nat) (hdi : d + i = 7) (w : World) (v : Value) (hv : Sl w 1 v 0 (by8 [])) : Calls Tryz.prog 130 #[v, .int .i64 i] w (FrE (d + 1) [] w) := by
  obtain ⟨a, c, rfl⟩ := hv.len; have hd : decide (8 ≤ (i : Int)) = false := decide_eq_false (by omega); have hd2 : decide ((i : Int) ≥ 8) = false := decide_eq_false (by omega); have hB0 := below_alloc w (.cells #[.int .i64 0, .int .u64 0, .slice none 0 0, .string ⟨#[]⟩, .slice none 0 0] 62); have hbx := RowAt.new w #[.int .i64 0, .int .u64 0, .slice none 0 0, .string ⟨#[]⟩, .slice none 0 0] 62; have hz0 : (w.alloc (.cells #[.int .i64 0, .int .u64 0, .slice none 0 0, .string ⟨#[]⟩, .slice none 0 0] 62)).heap.size = w.heap.size + 1 := World.size_alloc _ _; obtain ⟨W0, hW0⟩ : ∃ W, w.alloc (.cells #[.int .i64 0, .int .u64 0, .slice none 0 0, .string ⟨#[]⟩, .slice none 0 0] 62) = W := ⟨_, rfl⟩; rw [hW0] at hB0 hbx hz0; have hhd := headr_c W0 (.slice a 0 c) [] (hv.up hB0) (by simp); have HP := Lib.hid (show itemP (d + 1) [] = .error 121 from rfl)
  go_enter Tryz.func130, Tryz.ntmps130
  go_wp2_with (first
          | (go_at_call 150; refine hhd.mono ?_; rintro en w4 ⟨hb4, rfl⟩; have hbx4 := hbx.below hb4; have e0 := RowAt.cell hbx4 (i := 0) rfl; have e1 := RowAt.cell hbx4 (i := 1) rfl; have e2 := RowAt.cell hbx4 (i := 2) rfl; have e3 := RowAt.cell hbx4 (i := 3) rfl; have e4 := RowAt.cell hbx4 (i := 4) rfl; have g0 := RowAt.fz hbx4 0; have g1 := RowAt.fz hbx4 1; have g2 := RowAt.fz hbx4 2; have g3 := RowAt.fz hbx4 3; have g4 := RowAt.fz hbx4 4))
  obtain ⟨hX9, hb9⟩ := set5 hbx4 (.int .i64 0) (.int .u64 0) (.slice none 0 0) (.string ⟨#[]⟩) (.slice none 0 0); have r0 := RowAt.cell hX9 (i := 0) rfl; have r1 := RowAt.cell hX9 (i := 1) rfl; have r2 := RowAt.cell hX9 (i := 2) rfl; have r3 := RowAt.cell hX9 (i := 3) rfl; have r4 := RowAt.cell hX9 (i := 4) rfl; have hbw := (below_up hB0 hb4); have hz9 := hb9.size; refine bodyPost_ret (v := .tuple #[zeroIt, .int .i64 0, .int .i64 121]) ?_ rfl ?_
  · simp [results, Tryz.results130, go_sem, r0, r1, r2, r3, r4]
  · exact frE_err HP.out (hbw.trans (hb9.below (fun q e => by omega) hbw.size))
theorem itemP_rest {d : Nat} {f : UInt8} {r : List UInt8} (h : f.toNat < 244 ∨ 246 < f.toNat) : itemP (d + 1) (f :: r) = match headP (f :: r) with | none => .error 121 | some (m, n, k) => bodyP (itemP d) m n k ((f :: r).drop k) := by
  simp only [itemP, simpleP_out h]
  cases headP (f :: r) <;> rfl
theorem headP_major {f : UInt8} {r : List UInt8} {m n : Int} {k : Nat} (h : headP (f :: r) = some (m, n, k)) : m = ((f.toNat / 32 : Nat) : Int) := by
  simp only [headP] at h; split at h
  · cases h
  · split at h
    · simp only [Option.some.injEq, Prod.mk.injEq] at h; exact h.1.symm
    · cases h
theorem firstR_far (d i : Nat) (hdi : d + i = 7) (w : World) (v : Value) (f : UInt8) (r : List UInt8) (L : Nat) (hL : L = r.length + 1) (hv : Sl w 1 v L (by8 (f :: r))) (hbl : L ≤ 1000000) (hf : 246 < f.toNat) :
    Calls Tryz.prog 130 #[v, .int .i64 i] w (FrE (d + 1) (f :: r) w) := by
  obtain ⟨a, c, rfl⟩ := hv.len; obtain ⟨g, off, ha, hcu⟩ := hv.cellAt (k := 0) (by omega) (by omega); subst ha; simp only [Nat.add_zero] at hcu; rw [show (by8 (f :: r))[0]? = some (.int .u8 f.toNat) from rfl] at hcu; have hd : decide (8 ≤ (i : Int)) = false := decide_eq_false (by omega); have hd2 : decide ((i : Int) ≥ 8) = false := decide_eq_false (by omega); have hB0 := below_alloc w (.cells #[.int .i64 0, .int .u64 0, .slice none 0 0, .string ⟨#[]⟩, .slice none 0 0] 62); have hbx := RowAt.new w #[.int .i64 0, .int .u64 0, .slice none 0 0, .string ⟨#[]⟩, .slice none 0 0] 62; have hz0 : (w.alloc (.cells #[.int .i64 0, .int .u64 0, .slice none 0 0, .string ⟨#[]⟩, .slice none 0 0] 62)).heap.size = w.heap.size + 1 := World.size_alloc _ _; obtain ⟨W0, hW0⟩ : ∃ W, w.alloc (.cells #[.int .i64 0, .int .u64 0, .slice none 0 0, .string ⟨#[]⟩, .slice none 0 0] 62) = W := ⟨_, rfl⟩
  rw [hW0] at hB0 hbx hz0; have hcu := cell_up hB0 hcu
  have hLp : 0 < L := by omega
  have hLd : decide (0 < (L : Int)) = true := decide_eq_true (by omega); have HL := Lib.hid hL; have hhd := headr_c W0 (.slice (some ⟨g, off, none⟩) L c) (f :: r) (by rw [List.length_cons, ← hL]; exact hv.up hB0) (by rw [List.length_cons, ← hL]; exact hbl); unfold HrE at hhd; clear hL; have hf1 : decide (244 ≤ (f.toNat : Int)) = true := decide_eq_true (by omega); have hf2 : decide ((f.toNat : Int) ≤ 246) = false := decide_eq_false (by omega); have hf3 : decide ((f.toNat : Int) ≥ 244) = true := decide_eq_true (by omega); have hF := f.toNat_lt; have HP := itemP_rest (d := d) (f := f) (r := r) (.inr hf)
  cases hh : headP (f :: r) with
  | none =>
    rw [hh] at HP hhd; have HP := Lib.hid HP; clear hh; go_enter Tryz.func130, Tryz.ntmps130
    go_wp2_with (first
          | (go_at_call 150; refine hhd.mono ?_; rintro en w4 ⟨hb4, rfl⟩; have hbx4 := hbx.below hb4; have e0 := RowAt.cell hbx4 (i := 0) rfl; have e1 := RowAt.cell hbx4 (i := 1) rfl; have e2 := RowAt.cell hbx4 (i := 2) rfl; have e3 := RowAt.cell hbx4 (i := 3) rfl; have e4 := RowAt.cell hbx4 (i := 4) rfl; have g0 := RowAt.fz hbx4 0; have g1 := RowAt.fz hbx4 1; have g2 := RowAt.fz hbx4 2; have g3 := RowAt.fz hbx4 3; have g4 := RowAt.fz hbx4 4))
    obtain ⟨hX9, hb9⟩ := set5 hbx4 (.int .i64 0) (.int .u64 0) (.slice none 0 0) (.string ⟨#[]⟩) (.slice none 0 0); have r0 := RowAt.cell hX9 (i := 0) rfl; have r1 := RowAt.cell hX9 (i := 1) rfl; have r2 := RowAt.cell hX9 (i := 2) rfl; have r3 := RowAt.cell hX9 (i := 3) rfl; have r4 := RowAt.cell hX9 (i := 4) rfl; have hbw := (below_up hB0 hb4); have hz9 := hb9.size; refine bodyPost_ret (v := .tuple #[zeroIt, .int .i64 0, .int .i64 121]) ?_ rfl ?_
    · simp [results, Tryz.results130, go_sem, r0, r1, r2, r3, r4]
    · exact frE_err HP.out (hbw.trans (hb9.below (fun q e => by omega) hbw.size))
  | some p =>
    obtain ⟨m, n, k⟩ := p; obtain ⟨_, ⟨hn0, hn1⟩, hk1, hkb, _, _⟩ := headP_some hh
    have hm : m = 7 := by have := headP_major hh; omega
    subst hm; rw [hh] at HP hhd; have HP := Lib.hid (HP.trans (show bodyP (itemP d) 7 n k _ = .error 121 by unfold bodyP; rw [if_neg (by decide), if_neg (by decide), if_neg (by decide), if_neg (by decide)]))
    have hk0 : ((k : Int) == 0) = false := by rw [beq_eq_false_iff_ne]; omega
    have hk00 : ¬ k = 0 := by omega
    clear hh; go_enter Tryz.func130, Tryz.ntmps130
    go_wp2_with (first
          | (go_at_call 150; refine hhd.mono ?_; rintro en w4 ⟨hb4, rfl⟩; have hbx4 := hbx.below hb4; have e0 := RowAt.cell hbx4 (i := 0) rfl; have e1 := RowAt.cell hbx4 (i := 1) rfl; have e2 := RowAt.cell hbx4 (i := 2) rfl; have e3 := RowAt.cell hbx4 (i := 3) rfl; have e4 := RowAt.cell hbx4 (i := 4) rfl; have g0 := RowAt.fz hbx4 0; have g1 := RowAt.fz hbx4 1; have g2 := RowAt.fz hbx4 2; have g3 := RowAt.fz hbx4 3; have g4 := RowAt.fz hbx4 4))
    obtain ⟨hX9, hb9⟩ := set5 hbx4 (.int .i64 0) (.int .u64 0) (.slice none 0 0) (.string ⟨#[]⟩) (.slice none 0 0); have r0 := RowAt.cell hX9 (i := 0) rfl; have r1 := RowAt.cell hX9 (i := 1) rfl; have r2 := RowAt.cell hX9 (i := 2) rfl; have r3 := RowAt.cell hX9 (i := 3) rfl; have r4 := RowAt.cell hX9 (i := 4) rfl; have hbw := (below_up hB0 hb4); have hz9 := hb9.size; refine bodyPost_ret (v := .tuple #[zeroIt, .int .i64 0, .int .i64 121]) ?_ rfl ?_
    · simp [results, Tryz.results130, go_sem, r0, r1, r2, r3, r4]
    · exact frE_err HP.out (hbw.trans (hb9.below (fun q e => by omega) hbw.size))
theorem firstR_step (d i : Nat) (hdi : d + i = 7) (IH : ∀ (w : World) (v : Value) (b : List UInt8), Sl w 1 v b.length (by8 b) → b.length ≤ 1000000 → Calls Tryz.prog 130 #[v, .int .i64 ((i : Int) + 1)] w (FrE d b w)) (w : World) (v : Value) (f : UInt8) (r : List UInt8) (L : Nat) (hL : L = r.length + 1) (hv : Sl w 1 v L (by8 (f :: r))) (hbl : L ≤ 1000000) (hf : f.toNat < 244) :
    Calls Tryz.prog 130 #[v, .int .i64 i] w (FrE (d + 1) (f :: r) w) := by
  obtain ⟨a, c, rfl⟩ := hv.len; obtain ⟨g, off, ha, hcu⟩ := hv.cellAt (k := 0) (by omega) (by omega); subst ha; simp only [Nat.add_zero] at hcu; rw [show (by8 (f :: r))[0]? = some (.int .u8 f.toNat) from rfl] at hcu; have hd : decide (8 ≤ (i : Int)) = false := decide_eq_false (by omega); have hd2 : decide ((i : Int) ≥ 8) = false := decide_eq_false (by omega); have hB0 := below_alloc w (.cells #[.int .i64 0, .int .u64 0, .slice none 0 0, .string ⟨#[]⟩, .slice none 0 0] 62); have hbx := RowAt.new w #[.int .i64 0, .int .u64 0, .slice none 0 0, .string ⟨#[]⟩, .slice none 0 0] 62; have hz0 : (w.alloc (.cells #[.int .i64 0, .int .u64 0, .slice none 0 0, .string ⟨#[]⟩, .slice none 0 0] 62)).heap.size = w.heap.size + 1 := World.size_alloc _ _; obtain ⟨W0, hW0⟩ : ∃ W, w.alloc (.cells #[.int .i64 0, .int .u64 0, .slice none 0 0, .string ⟨#[]⟩, .slice none 0 0] 62) = W := ⟨_, rfl⟩
  rw [hW0] at hB0 hbx hz0; have hcu := cell_up hB0 hcu
  have hLp : 0 < L := by omega
  have hLd : decide (0 < (L : Int)) = true := decide_eq_true (by omega); have HL := Lib.hid hL; have hhd := headr_c W0 (.slice (some ⟨g, off, none⟩) L c) (f :: r) (by rw [List.length_cons, ← hL]; exact hv.up hB0) (by rw [List.length_cons, ← hL]; exact hbl); unfold HrE at hhd; clear hL; have hf1 : decide (244 ≤ (f.toNat : Int)) = false := decide_eq_false (by omega); have hf3 : decide ((f.toNat : Int) ≥ 244) = false := decide_eq_false (by omega); have HP := itemP_rest (d := d) (f := f) (r := r) (.inl hf)
  cases hh : headP (f :: r) with
  | none =>
    rw [hh] at HP hhd; have HP := Lib.hid HP; clear hh; go_enter Tryz.func130, Tryz.ntmps130
    go_wp2_with (first
          | (go_at_call 150; refine hhd.mono ?_; rintro en w4 ⟨hb4, rfl⟩; have hbx4 := hbx.below hb4; have e0 := RowAt.cell hbx4 (i := 0) rfl; have e1 := RowAt.cell hbx4 (i := 1) rfl; have e2 := RowAt.cell hbx4 (i := 2) rfl; have e3 := RowAt.cell hbx4 (i := 3) rfl; have e4 := RowAt.cell hbx4 (i := 4) rfl; have g0 := RowAt.fz hbx4 0; have g1 := RowAt.fz hbx4 1; have g2 := RowAt.fz hbx4 2; have g3 := RowAt.fz hbx4 3; have g4 := RowAt.fz hbx4 4))
    obtain ⟨hX9, hb9⟩ := set5 hbx4 (.int .i64 0) (.int .u64 0) (.slice none 0 0) (.string ⟨#[]⟩) (.slice none 0 0); have r0 := RowAt.cell hX9 (i := 0) rfl; have r1 := RowAt.cell hX9 (i := 1) rfl; have r2 := RowAt.cell hX9 (i := 2) rfl; have r3 := RowAt.cell hX9 (i := 3) rfl; have r4 := RowAt.cell hX9 (i := 4) rfl; have hbw := (below_up hB0 hb4); have hz9 := hb9.size; refine bodyPost_ret (v := .tuple #[zeroIt, .int .i64 0, .int .i64 121]) ?_ rfl ?_
    · simp [results, Tryz.results130, go_sem, r0, r1, r2, r3, r4]
    · exact frE_err HP.out (hbw.trans (hb9.below (fun q e => by omega) hbw.size))
  | some p =>
    obtain ⟨m, n, k⟩ := p; obtain ⟨⟨hm0, hm7⟩, ⟨hn0, hn1⟩, hk1, hkb, _, _⟩ := headP_some hh; rw [hh] at HP hhd; have HP : itemP (d + 1) (f :: r) = bodyP (itemP d) m n k ((f :: r).drop k) := HP; obtain ⟨N, rfl⟩ : ∃ N : Nat, n = N := ⟨n.toNat, by omega⟩
    have hkL : k ≤ L := by have := HL.out; rw [List.length_cons] at hkb; omega
    have hrl : ((f :: r).drop k).length = L - k := by have := HL.out; rw [List.length_drop, List.length_cons]; omega
    have hsl : Sl w 1 (.slice (some ⟨g, off, none⟩) L c) L (by8 (f :: r)) := hv; obtain ⟨q, hq⟩ : ∃ q, (f :: r).drop k = q := ⟨_, rfl⟩; rw [hq] at HP hrl; have HQ := Lib.hid hq; have HH := Lib.hid hh; clear hq hh hv hkb
    have hk0 : ((k : Int) == 0) = false := by rw [beq_eq_false_iff_ne]; omega
    have hk00 : ¬ k = 0 := by omega
    have hwk : IntKind.u64.wrap ((L : Int) - (k : Int)) = (L : Int) - k := wrapU (by omega) (by omega)
    have hcs : m = 0 ∨ m = 2 ∨ m = 3 ∨ m = 4 ∨ m = 1 ∨ m = 5 ∨ m = 6 ∨ m = 7 := by omega
    rcases hcs with rfl | rfl | rfl | rfl | hm
    · have HP := Lib.hid (HP.trans (show _ = .ok (It.mk 1 N [] noS [], k) by unfold bodyP; rw [if_pos rfl]))
      go_enter Tryz.func130, Tryz.ntmps130
      go_wp2_with (first
          | (go_at_call 150; refine hhd.mono ?_; rintro en w4 ⟨hb4, rfl⟩; have hbx4 := hbx.below hb4; have e0 := RowAt.cell hbx4 (i := 0) rfl; have e1 := RowAt.cell hbx4 (i := 1) rfl; have e2 := RowAt.cell hbx4 (i := 2) rfl; have e3 := RowAt.cell hbx4 (i := 3) rfl; have e4 := RowAt.cell hbx4 (i := 4) rfl; have g0 := RowAt.fz hbx4 0; have g1 := RowAt.fz hbx4 1; have g2 := RowAt.fz hbx4 2; have g3 := RowAt.fz hbx4 3; have g4 := RowAt.fz hbx4 4))
      obtain ⟨hX9, hb9⟩ := set5 hbx4 (.int .i64 1) (.int .u64 N) (.slice none 0 0) (.string ⟨#[]⟩) (.slice none 0 0); have r0 := RowAt.cell hX9 (i := 0) rfl; have r1 := RowAt.cell hX9 (i := 1) rfl; have r2 := RowAt.cell hX9 (i := 2) rfl; have r3 := RowAt.cell hX9 (i := 3) rfl; have r4 := RowAt.cell hX9 (i := 4) rfl; have hbw := (below_up hB0 hb4); have hz9 := hb9.size; refine bodyPost_ret (v := .tuple #[rwV ⟨1, N, .slice none 0 0, ⟨#[]⟩, .slice none 0 0⟩, .int .i64 k, .int .i64 0]) ?_ rfl ?_
      · simp [results, Tryz.results130, go_sem, r0, r1, r2, r3, r4]
      · exact frE_ok HP.out rfl (hbw.trans (hb9.below (fun q e => by omega) hbw.size)) (itR_flat hn0 hn1 slS_nil)
    · by_cases hN : N ≤ q.length
      · have HP := Lib.hid (HP.trans (show _ = .ok (It.mk 2 0 (q.take N) noS [], k + N) by unfold bodyP; rw [if_neg (by decide), if_pos rfl, if_pos (by omega), Int.toNat_natCast]))
        have hd9 : decide ((L : Int) - (k : Int) < (N : Int)) = false := decide_eq_false (by omega); have hwN : IntKind.i64.wrap (N : Int) = N := wrap_i64 (by omega) (by omega); have hwS : IntKind.i64.wrap ((k : Int) + (N : Int)) = (k : Int) + N := wrap_i64 (by omega) (by omega); obtain ⟨a2, hr2, hs2⟩ := cut_lh slT_u8 hsl k (k + N) (by omega) (by omega)
        have hr2 : ∀ (kl kh : IntKind) (w' : World), (Instr.slice 48 (.slice (some ⟨g, off, none⟩) L c) (some (.int kl (k : Int))) (some (.int kh ((k : Int) + (N : Int)))) none).run Tryz.prog w' = .ok (.slice a2 N (c - k)) w' := fun kl kh w' => by have := hr2 kl kh w'; rwa [Int.natCast_add, Nat.add_sub_cancel_left] at this
        have hs2 : Sl w 1 (.slice a2 N (c - k)) N (by8 (q.take N)) := by
          rw [Nat.add_sub_cancel_left, Nat.mul_one, Nat.mul_one] at hs2; rw [← HQ.out, by8_take, by8_drop]; exact hs2
        go_enter Tryz.func130, Tryz.ntmps130
        go_wp2_with (first
          | (go_at_call 150; refine hhd.mono ?_; rintro en w4 ⟨hb4, rfl⟩; have hbx4 := hbx.below hb4; have e0 := RowAt.cell hbx4 (i := 0) rfl; have e1 := RowAt.cell hbx4 (i := 1) rfl; have e2 := RowAt.cell hbx4 (i := 2) rfl; have e3 := RowAt.cell hbx4 (i := 3) rfl; have e4 := RowAt.cell hbx4 (i := 4) rfl; have g0 := RowAt.fz hbx4 0; have g1 := RowAt.fz hbx4 1; have g2 := RowAt.fz hbx4 2; have g3 := RowAt.fz hbx4 3; have g4 := RowAt.fz hbx4 4)
          | (at_builtin; refine wpList_app rfl _ _ 48 rfl slT_u8 w4.heap.size rfl (World.ownsRow_lit w4 #[] 0 (Nat.le_refl _) (by decide) rfl) rfl (hs2.up ((below_up hB0 hb4).alloc (below_up hB0 hb4).size _)) (one_by8 _) (by simp only [maxLen]; omega) (by omega) (by simp) ?_; intro v5 w5 ho5 hg5 _; obtain ⟨a5, c5, rfl⟩ := own_slice ho5; have hb5 := grown_below ((below_up hB0 hb4).alloc (below_up hB0 hb4).size (.cells #[] 5)) hg5 (fun q hq => by have : w4.heap.size = q := Option.some.inj hq; have := hb4.size; omega); have hbx5 := hbx4.below (grown_below (below_alloc w4 (.cells #[] 5)) hg5 (fun q hq => by have : w4.heap.size = q := Option.some.inj hq; omega)); have e0 := RowAt.cell hbx5 (i := 0) rfl; have e1 := RowAt.cell hbx5 (i := 1) rfl; have e2 := RowAt.cell hbx5 (i := 2) rfl; have e3 := RowAt.cell hbx5 (i := 3) rfl; have e4 := RowAt.cell hbx5 (i := 4) rfl; have g0 := RowAt.fz hbx5 0; have g1 := RowAt.fz hbx5 1; have g2 := RowAt.fz hbx5 2; have g3 := RowAt.fz hbx5 3; have g4 := RowAt.fz hbx5 4))
        obtain ⟨hX9, hb9⟩ := set5 hbx5 (.int .i64 2) (.int .u64 0) (.slice a5 N c5) (.string ⟨#[]⟩) (.slice none 0 0); have r0 := RowAt.cell hX9 (i := 0) rfl; have r1 := RowAt.cell hX9 (i := 1) rfl; have r2 := RowAt.cell hX9 (i := 2) rfl; have r3 := RowAt.cell hX9 (i := 3) rfl; have r4 := RowAt.cell hX9 (i := 4) rfl; have hbw := hb5; have hz9 := hb9.size; refine bodyPost_ret (v := .tuple #[rwV ⟨2, 0, .slice a5 N c5, ⟨#[]⟩, .slice none 0 0⟩, .int .i64 ((k : Int) + N), .int .i64 0]) ?_ rfl ?_
        · simp [results, Tryz.results130, go_sem, r0, r1, r2, r3, r4]
        · have hz4 := hb4.size
          have hbk : ∀ y, (Value.slice a5 N c5).ownBlock = some y → w.heap.size < y ∧ y < w5.heap.size := fun y hy => by have := own_of_some ho5 (by rw [Nat.zero_add]; exact hy); have := hbx4.lt; omega
          refine frE_ok HP.out (by rw [Int.natCast_add]) (hbw.trans (hb9.below (fun q e => by omega) hbw.size)) (itR_flat (by decide) (by decide) ?_); rw [List.length_take, Nat.min_eq_left hN]; have hsl5 := Sl.of_own ho5; rw [Nat.zero_add, List.nil_append] at hsl5; exact ⟨hsl5.but hb9 (.inr fun y hy e => by have := hbk y hy; omega), .inr fun y hy => by have := hbk y hy; omega⟩
      · have HP := Lib.hid (HP.trans (show _ = .error 121 by unfold bodyP; rw [if_neg (by decide), if_pos rfl, if_neg (by omega)]))
        have hd9 : decide ((L : Int) - (k : Int) < (N : Int)) = true := decide_eq_true (by omega); go_enter Tryz.func130, Tryz.ntmps130
        go_wp2_with (first
          | (go_at_call 150; refine hhd.mono ?_; rintro en w4 ⟨hb4, rfl⟩; have hbx4 := hbx.below hb4; have e0 := RowAt.cell hbx4 (i := 0) rfl; have e1 := RowAt.cell hbx4 (i := 1) rfl; have e2 := RowAt.cell hbx4 (i := 2) rfl; have e3 := RowAt.cell hbx4 (i := 3) rfl; have e4 := RowAt.cell hbx4 (i := 4) rfl; have g0 := RowAt.fz hbx4 0; have g1 := RowAt.fz hbx4 1; have g2 := RowAt.fz hbx4 2; have g3 := RowAt.fz hbx4 3; have g4 := RowAt.fz hbx4 4))
        obtain ⟨hX9, hb9⟩ := set5 hbx4 (.int .i64 0) (.int .u64 0) (.slice none 0 0) (.string ⟨#[]⟩) (.slice none 0 0); have r0 := RowAt.cell hX9 (i := 0) rfl; have r1 := RowAt.cell hX9 (i := 1) rfl; have r2 := RowAt.cell hX9 (i := 2) rfl; have r3 := RowAt.cell hX9 (i := 3) rfl; have r4 := RowAt.cell hX9 (i := 4) rfl; have hbw := (below_up hB0 hb4); have hz9 := hb9.size; refine bodyPost_ret (v := .tuple #[zeroIt, .int .i64 0, .int .i64 121]) ?_ rfl ?_
        · simp [results, Tryz.results130, go_sem, r0, r1, r2, r3, r4]
        · exact frE_err HP.out (hbw.trans (hb9.below (fun q e => by omega) hbw.size))
    · by_cases hN : N ≤ q.length
      · obtain ⟨s, hs⟩ : ∃ s : ByteArray, (⟨(q.take N).toArray⟩ : ByteArray) = s := ⟨_, rfl⟩
        have hsz : s.size ≤ 1000000 := by rw [← hs]; show (q.take N).toArray.size ≤ _; rw [List.size_toArray, List.length_take]; omega
        have HPT : itemP (d + 1) (f :: r) = if (runes s).2 = true then .ok (It.mk 3 0 [] s [], k + N) else .error 121 := HP.trans (by
          unfold bodyP; rw [if_neg (by decide), if_neg (by decide), if_pos rfl, Int.toNat_natCast, hs]
          have : (N : Int) ≤ q.length := by omega
          simp only [this, true_and])
        obtain ⟨⟨rn, rf⟩, hrf⟩ : ∃ R, runes s = R := ⟨_, rfl⟩; rw [hrf] at HPT; have hd9 : decide ((L : Int) - (k : Int) < (N : Int)) = false := decide_eq_false (by omega); have hwN : IntKind.i64.wrap (N : Int) = N := wrap_i64 (by omega) (by omega); have hwS : IntKind.i64.wrap ((k : Int) + (N : Int)) = (k : Int) + N := wrap_i64 (by omega) (by omega); obtain ⟨a2, hr2, hs2⟩ := cut_lh slT_u8 hsl k (k + N) (by omega) (by omega)
        have hr2 : ∀ (kl kh : IntKind) (w' : World), (Instr.slice 48 (.slice (some ⟨g, off, none⟩) L c) (some (.int kl (k : Int))) (some (.int kh ((k : Int) + (N : Int)))) none).run Tryz.prog w' = .ok (.slice a2 N (c - k)) w' := fun kl kh w' => by have := hr2 kl kh w'; rwa [Int.natCast_add, Nat.add_sub_cancel_left] at this
        have hs2 : Sl w 1 (.slice a2 N (c - k)) N (by8 (q.take N)) := by
          rw [Nat.add_sub_cancel_left, Nat.mul_one, Nat.mul_one] at hs2; rw [← HQ.out, by8_take, by8_drop]; exact hs2
        have hcv : ∀ W, Below w.heap.size w W → (convert 48 9 (.slice a2 N (c - k))).run Tryz.prog W = .ok (.string s) W := fun W hb => by
          rw [← hs]; exact run_str (P := Tryz.prog) Tryz.underlying48 Tryz.underlying5 Tryz.underlying9 (hs2.up hb)
        have HCV := Lib.hid hcv
        have hru := fun W => runesR_c s W (by omega)
        rw [hrf] at hru; have HRU := Lib.hid hru; clear hcv hru hrf hs; cases rf
        · have HP := Lib.hid (HPT.trans (if_neg (by simp)))
          clear HPT; go_enter Tryz.func130, Tryz.ntmps130
          go_wp2_with (first
          | (go_at_call 150; refine hhd.mono ?_; rintro en w4 ⟨hb4, rfl⟩; have hbx4 := hbx.below hb4; have e0 := RowAt.cell hbx4 (i := 0) rfl; have e1 := RowAt.cell hbx4 (i := 1) rfl; have e2 := RowAt.cell hbx4 (i := 2) rfl; have e3 := RowAt.cell hbx4 (i := 3) rfl; have e4 := RowAt.cell hbx4 (i := 4) rfl; have g0 := RowAt.fz hbx4 0; have g1 := RowAt.fz hbx4 1; have g2 := RowAt.fz hbx4 2; have g3 := RowAt.fz hbx4 3; have g4 := RowAt.fz hbx4 4; have hcv4 := HCV.out w4 (below_up hB0 hb4))
          | (go_at_call 108; refine (HRU.out _).mono ?_; rintro en w6 ⟨rfl, rfl⟩))
          obtain ⟨hX9, hb9⟩ := set5 hbx4 (.int .i64 0) (.int .u64 0) (.slice none 0 0) (.string ⟨#[]⟩) (.slice none 0 0); have r0 := RowAt.cell hX9 (i := 0) rfl; have r1 := RowAt.cell hX9 (i := 1) rfl; have r2 := RowAt.cell hX9 (i := 2) rfl; have r3 := RowAt.cell hX9 (i := 3) rfl; have r4 := RowAt.cell hX9 (i := 4) rfl; have hbw := (below_up hB0 hb4); have hz9 := hb9.size; refine bodyPost_ret (v := .tuple #[zeroIt, .int .i64 0, .int .i64 121]) ?_ rfl ?_
          · simp [results, Tryz.results130, go_sem, r0, r1, r2, r3, r4]
          · exact frE_err HP.out (hbw.trans (hb9.below (fun q e => by omega) hbw.size))
        · have HP := Lib.hid (HPT.trans (if_pos rfl))
          clear HPT; go_enter Tryz.func130, Tryz.ntmps130
          go_wp2_with (first
          | (go_at_call 150; refine hhd.mono ?_; rintro en w4 ⟨hb4, rfl⟩; have hbx4 := hbx.below hb4; have e0 := RowAt.cell hbx4 (i := 0) rfl; have e1 := RowAt.cell hbx4 (i := 1) rfl; have e2 := RowAt.cell hbx4 (i := 2) rfl; have e3 := RowAt.cell hbx4 (i := 3) rfl; have e4 := RowAt.cell hbx4 (i := 4) rfl; have g0 := RowAt.fz hbx4 0; have g1 := RowAt.fz hbx4 1; have g2 := RowAt.fz hbx4 2; have g3 := RowAt.fz hbx4 3; have g4 := RowAt.fz hbx4 4; have hcv4 := HCV.out w4 (below_up hB0 hb4))
          | (go_at_call 108; refine (HRU.out _).mono ?_; rintro en w6 ⟨rfl, rfl⟩))
          obtain ⟨hX9, hb9⟩ := set5 hbx4 (.int .i64 3) (.int .u64 0) (.slice none 0 0) (.string s) (.slice none 0 0); have r0 := RowAt.cell hX9 (i := 0) rfl; have r1 := RowAt.cell hX9 (i := 1) rfl; have r2 := RowAt.cell hX9 (i := 2) rfl; have r3 := RowAt.cell hX9 (i := 3) rfl; have r4 := RowAt.cell hX9 (i := 4) rfl; have hbw := (below_up hB0 hb4); have hz9 := hb9.size; refine bodyPost_ret (v := .tuple #[rwV ⟨3, 0, .slice none 0 0, s, .slice none 0 0⟩, .int .i64 ((k : Int) + N), .int .i64 0]) ?_ rfl ?_
          · simp [results, Tryz.results130, go_sem, r0, r1, r2, r3, r4]
          · exact frE_ok HP.out (by rw [Int.natCast_add]) (hbw.trans (hb9.below (fun q e => by omega) hbw.size)) (itR_flat (by decide) (by decide) slS_nil)
      · have HP := Lib.hid (HP.trans (show _ = .error 121 by unfold bodyP; rw [if_neg (by decide), if_neg (by decide), if_pos rfl, if_neg (by omega)]))
        have hd9 : decide ((L : Int) - (k : Int) < (N : Int)) = true := decide_eq_true (by omega); go_enter Tryz.func130, Tryz.ntmps130
        go_wp2_with (first
          | (go_at_call 150; refine hhd.mono ?_; rintro en w4 ⟨hb4, rfl⟩; have hbx4 := hbx.below hb4; have e0 := RowAt.cell hbx4 (i := 0) rfl; have e1 := RowAt.cell hbx4 (i := 1) rfl; have e2 := RowAt.cell hbx4 (i := 2) rfl; have e3 := RowAt.cell hbx4 (i := 3) rfl; have e4 := RowAt.cell hbx4 (i := 4) rfl; have g0 := RowAt.fz hbx4 0; have g1 := RowAt.fz hbx4 1; have g2 := RowAt.fz hbx4 2; have g3 := RowAt.fz hbx4 3; have g4 := RowAt.fz hbx4 4))
        obtain ⟨hX9, hb9⟩ := set5 hbx4 (.int .i64 0) (.int .u64 0) (.slice none 0 0) (.string ⟨#[]⟩) (.slice none 0 0); have r0 := RowAt.cell hX9 (i := 0) rfl; have r1 := RowAt.cell hX9 (i := 1) rfl; have r2 := RowAt.cell hX9 (i := 2) rfl; have r3 := RowAt.cell hX9 (i := 3) rfl; have r4 := RowAt.cell hX9 (i := 4) rfl; have hbw := (below_up hB0 hb4); have hz9 := hb9.size; refine bodyPost_ret (v := .tuple #[zeroIt, .int .i64 0, .int .i64 121]) ?_ rfl ?_
        · simp [results, Tryz.results130, go_sem, r0, r1, r2, r3, r4]
        · exact frE_err HP.out (hbw.trans (hb9.below (fun q e => by omega) hbw.size))
    · have HPB := HP
      clear HP
      have hX0 := fun (W : World) => RowAt.new W #[.int .i64 4, .int .u64 0, .slice none 0 0, .string ⟨#[]⟩, .slice none 0 0] TI
      go_enter Tryz.func130, Tryz.ntmps130
      go_wp2_with (first
          | (go_at_call 150; refine hhd.mono ?_; rintro en w4 ⟨hb4, rfl⟩; have hbx4 := hbx.below hb4; have e0 := RowAt.cell hbx4 (i := 0) rfl; have e1 := RowAt.cell hbx4 (i := 1) rfl; have e2 := RowAt.cell hbx4 (i := 2) rfl; have e3 := RowAt.cell hbx4 (i := 3) rfl; have e4 := RowAt.cell hbx4 (i := 4) rfl; have g0 := RowAt.fz hbx4 0; have g1 := RowAt.fz hbx4 1; have g2 := RowAt.fz hbx4 2; have g3 := RowAt.fz hbx4 3; have g4 := RowAt.fz hbx4 4))
      have hls0 : LrAt w d q w4.heap.size 0 0 [] [] (.slice none 0 0) (w4.alloc (.cells #[.int .i64 4, .int .u64 0, .slice none 0 0, .string ⟨#[]⟩, .slice none 0 0] TI)) := by
        exact ⟨(below_up hB0 hb4).alloc (below_up hB0 hb4).size _, rfl, hX0 w4, World.ownsRow_nil _ _ _ _, by unfold ItsR; rfl, hbx4.alloc _⟩
      have hw4 : w.heap.size < w4.heap.size := hbx4.lt; clear e0 e1 e2 e3 e4 g0 g1 g2 g3 g4 hbx4; have HH4 := Lib.hid (And.intro hhd hb4); clear hhd hb4
      go_loopw [14, 9] (fun ti ta wr => ∃ (j cc : Nat) (l : List It) (rows : List Rw) (lv : Value), ti = .int .u64 (j : Int) ∧ ta = .int .i64 ((k : Int) + (cc : Int)) ∧ j ≤ N ∧ LrAt w d q w4.heap.size j cc l rows lv wr) (fun ti _ _ => N - (intOf ti).toNat)
      case atStart => exact ⟨0, 0, [], [], _, rfl, by simp, Nat.zero_le _, hls0⟩
      case round =>
        clear hls0; obtain ⟨j, cc, l, rows, lv, rfl, rfl, hjN, hls⟩ := hrel; obtain ⟨p, pc, rfl⟩ := own_slice hls.own; have hll := listP_some (itemP_some d) _ _ _ _ hls.lst; have hXr := hls.box.lt; have hbx5 := hls.bx
        have hown := fun y hy => own_of_some (k := y) hls.own hy
        by_cases hjn : j = N
        · subst hjn
          have e0 := RowAt.cell hbx5 (i := 0) rfl; have e1 := RowAt.cell hbx5 (i := 1) rfl; have e2 := RowAt.cell hbx5 (i := 2) rfl; have e3 := RowAt.cell hbx5 (i := 3) rfl; have e4 := RowAt.cell hbx5 (i := 4) rfl; have g0 := RowAt.fz hbx5 0; have g1 := RowAt.fz hbx5 1; have g2 := RowAt.fz hbx5 2; have g3 := RowAt.fz hbx5 3; have g4 := RowAt.fz hbx5 4; have x0 := RowAt.cell hls.box (i := 0) rfl; have x1 := RowAt.cell hls.box (i := 1) rfl; have x2 := RowAt.cell hls.box (i := 2) rfl; have x3 := RowAt.cell hls.box (i := 3) rfl; have x4 := RowAt.cell hls.box (i := 4) rfl; have y0 := RowAt.fz hls.box 0; have y1 := RowAt.fz hls.box 1; have y2 := RowAt.fz hls.box 2; have y3 := RowAt.fz hls.box 3; have y4 := RowAt.fz hls.box 4; go_wp2; obtain ⟨hX9, hb9⟩ := set5 hbx5 (.int .i64 4) (.int .u64 0) (.slice none 0 0) (.string ⟨#[]⟩) (.slice p j pc); have r0 := RowAt.cell hX9 (i := 0) rfl; have r1 := RowAt.cell hX9 (i := 1) rfl
          have r2 := RowAt.cell hX9 (i := 2) rfl; have r3 := RowAt.cell hX9 (i := 3) rfl; have r4 := RowAt.cell hX9 (i := 4) rfl; have hbw := hls.below; have hz9 := hb9.size; refine bodyPost_ret (v := .tuple #[rwV ⟨4, 0, .slice none 0 0, ⟨#[]⟩, .slice p j pc⟩, .int .i64 ((k : Int) + cc), .int .i64 0]) ?_ rfl ?_
          · simp [results, Tryz.results130, go_sem, r0, r1, r2, r3, r4]
          · refine frE_ok (x := .mk 4 0 [] noS l) (k := k + cc) (HPB.trans (by unfold bodyP; rw [if_neg (by decide), if_neg (by decide), if_neg (by decide), if_pos rfl, Int.toNat_natCast, hls.lst])) (by rw [Int.natCast_add]) (hbw.trans (hb9.below (fun q e => by omega) hbw.size)) ?_
            unfold ItR; refine ⟨rfl, rfl, rfl, ⟨by decide, by decide⟩, slS_nil, rows, ?_, hls.its.turn (fun sz v n cs hsl => (hsl.but hb9 (fun y hy e => by have := hy.1; omega)).mono fun y hy => ⟨by have := hy.1; omega, by have := hy.2.1; omega⟩)⟩; rw [hll.1]; exact ⟨(Sl.of_own hls.own).but hb9 (.inr fun y hy e => by have := hown y hy; omega), .inr fun y hy => by have := hown y hy; omega⟩
        · have hjd : decide ((j : Int) < (N : Int)) = true := decide_eq_true (by omega)
          obtain ⟨a3, hr3, hs3⟩ := cut_l slT_u8 hsl (k + cc) (by omega)
          have hr3 : ∀ (kl : IntKind) (w' : World), (Instr.slice 48 (.slice (some ⟨g, off, none⟩) L c) (some (.int kl ((k : Int) + (cc : Int)))) none none).run Tryz.prog w' = .ok (.slice a3 (L - (k + cc)) (c - (k + cc))) w' := fun kl w' => by have := hr3 kl w'; rwa [Int.natCast_add] at this
          have hql : (q.drop cc).length = L - (k + cc) := by rw [List.length_drop, hrl]; omega
          have hs3 : Sl w 1 (.slice a3 (L - (k + cc)) (c - (k + cc))) (q.drop cc).length (by8 (q.drop cc)) := by
            rw [hql, ← HQ.out, List.drop_drop, by8_drop]
            rwa [Nat.mul_one] at hs3
          have hcl := IH wr _ _ (hs3.up hls.below) (by omega); have hwi : IntKind.i64.wrap ((i : Int) + 1) = (i : Int) + 1 := wrap_i64 (by omega) (by omega); unfold FrE at hcl
          cases hx : itemP d (q.drop cc) with
          | error e =>
            rw [hx] at hcl; have he := itemP_error _ _ _ hx
            have he1 : (e == 0) = false := by rw [beq_eq_false_iff_ne]; omega
            have he2 : (e != 0) = true := by rw [bne_iff_ne]; omega
            have he3 : ¬ e = 0 := by omega
            have HP := Lib.hid (HPB.trans (show _ = .error e by unfold bodyP; rw [if_neg (by decide), if_neg (by decide), if_neg (by decide), if_pos rfl, Int.toNat_natCast, listP_err _ _ _ _ _ _ hls.lst hx (by omega)]))
            go_wp2_with (first
              | (go_at_call 130; refine hcl.mono ?_; rintro en w5 ⟨hb5, rfl⟩; have hbx6 := (hbx5.below hb5).alloc (.cells #[.int .i64 0, .int .u64 0, .slice none 0 0, .string ⟨#[]⟩, .slice none 0 0] 62); have e0 := RowAt.cell hbx6 (i := 0) rfl; have e1 := RowAt.cell hbx6 (i := 1) rfl; have e2 := RowAt.cell hbx6 (i := 2) rfl; have e3 := RowAt.cell hbx6 (i := 3) rfl; have e4 := RowAt.cell hbx6 (i := 4) rfl; have g0 := RowAt.fz hbx6 0; have g1 := RowAt.fz hbx6 1; have g2 := RowAt.fz hbx6 2; have g3 := RowAt.fz hbx6 3; have g4 := RowAt.fz hbx6 4))
            obtain ⟨hX9, hb9⟩ := set5 hbx6 (.int .i64 0) (.int .u64 0) (.slice none 0 0) (.string ⟨#[]⟩) (.slice none 0 0); have r0 := RowAt.cell hX9 (i := 0) rfl; have r1 := RowAt.cell hX9 (i := 1) rfl; have r2 := RowAt.cell hX9 (i := 2) rfl; have r3 := RowAt.cell hX9 (i := 3) rfl; have r4 := RowAt.cell hX9 (i := 4) rfl; have hbw := (below_up hls.below hb5).alloc (below_up hls.below hb5).size (.cells #[.int .i64 0, .int .u64 0, .slice none 0 0, .string ⟨#[]⟩, .slice none 0 0] 62); have hz9 := hb9.size; refine bodyPost_ret (v := .tuple #[zeroIt, .int .i64 0, .int .i64 e]) ?_ rfl ?_
            · simp [results, Tryz.results130, go_sem, r0, r1, r2, r3, r4]
            · exact frE_err HP.out (hbw.trans (hb9.below (fun q e => by omega) hbw.size))
          | ok xk =>
            obtain ⟨x, kk⟩ := xk; rw [hx] at hcl; have hkk := itemP_some _ _ _ _ hx; have hwa : IntKind.i64.wrap ((k : Int) + (cc : Int) + (kk : Int)) = (k : Int) + cc + kk := wrap_i64 (by omega) (by omega); have hwj : IntKind.u64.wrap ((j : Int) + 1) = (j : Int) + 1 := wrapU (by omega) (by omega)
            go_wp2_with (first
              | (go_at_call 130; refine hcl.mono ?_; rintro en w5 ⟨hb5, r5, rfl, hr5⟩; have hsh := hr5.shape; obtain ⟨k1, n1, ba1, bn1, bc1, s1, la1, ln1, lc1, rfl⟩ := hsh; have hby := below_alloc w5 (.cells #[.int .i64 k1, .int .u64 n1, .slice ba1 bn1 bc1, .string s1, .slice la1 ln1 lc1] 62); have hyr := RowAt.new w5 #[.int .i64 k1, .int .u64 n1, .slice ba1 bn1 bc1, .string s1, .slice la1 ln1 lc1] 62; have hX6 := (hls.box.below hb5).below hby; have x4 := hX6.cell (i := 4) rfl; have y4 := hX6.fz 4; have z0 := hyr.cell (i := 0) rfl; have z1 := hyr.cell (i := 1) rfl; have z2 := hyr.cell (i := 2) rfl; have z3 := hyr.cell (i := 3) rfl; have z4 := hyr.cell (i := 4) rfl; have hz5 := hb5.size)
              | (at_builtin; have hsn := sl_new5 (w5.alloc (.cells #[.int .i64 k1, .int .u64 n1, .slice ba1 bn1 bc1, .string s1, .slice la1 ln1 lc1] 62)) ⟨k1, n1, .slice ba1 bn1 bc1, s1, .slice la1 ln1 lc1⟩; rw [World.size_alloc] at hsn; refine wpList_app_at (m := 1) rfl _ _ 59 rfl slT_items (w4.heap.size + 1) rfl (own_up (own_up (own_up hls.own hb5) hby) (below_alloc _ _)) rfl hsn (one_rwS _ _ _ _ _ _ _ _ _) (by simp only [maxLen]; omega) (by omega) (by rw [World.size_alloc, World.size_alloc]; omega) ?_; intro v7 w7 ho7 hg7 _ hv7; obtain ⟨a7, c7, rfl⟩ := own_slice ho7; have hX7 : RowAt w7 w4.heap.size _ TI := (hg7.block _ (by rw [World.size_alloc, World.size_alloc]; omega) (fun e => by have := hown _ e.symm; omega)).trans (hX6.alloc _); have xx4 := hX7.cell (i := 4) rfl; have yy4 := hX7.fz 4))
            go_roundw
            case rel =>
              refine ⟨j + 1, cc + kk, l ++ [x], rows ++ [⟨k1, n1, .slice ba1 bn1 bc1, s1, .slice la1 ln1 lc1⟩], _, by go_num, by rw [Int.natCast_add, Int.add_assoc], by omega, hls.step hw4 hx ((ItR.up (ItR.up hr5 hby) (below_alloc _ _)).mono (fun y hy => ⟨hy.1, by rw [World.size_alloc, World.size_alloc]; omega⟩)) (below_up (below_up hb5 hby) (below_alloc _ _)) ho7 (But.grown hg7 (fun y hy => .inl hy)) hv7⟩
            case measure => simp [intOf]; omega
    · rcases hm with rfl | rfl | rfl | rfl
      all_goals
        have HP := Lib.hid (HP.trans (show _ = .error 121 by unfold bodyP; rw [if_neg (by decide), if_neg (by decide), if_neg (by decide), if_neg (by decide)])); go_enter Tryz.func130, Tryz.ntmps130
        go_wp2_with (first
          | (go_at_call 150; refine hhd.mono ?_; rintro en w4 ⟨hb4, rfl⟩; have hbx4 := hbx.below hb4; have e0 := RowAt.cell hbx4 (i := 0) rfl; have e1 := RowAt.cell hbx4 (i := 1) rfl; have e2 := RowAt.cell hbx4 (i := 2) rfl; have e3 := RowAt.cell hbx4 (i := 3) rfl; have e4 := RowAt.cell hbx4 (i := 4) rfl; have g0 := RowAt.fz hbx4 0; have g1 := RowAt.fz hbx4 1; have g2 := RowAt.fz hbx4 2; have g3 := RowAt.fz hbx4 3; have g4 := RowAt.fz hbx4 4))
        obtain ⟨hX9, hb9⟩ := set5 hbx4 (.int .i64 0) (.int .u64 0) (.slice none 0 0) (.string ⟨#[]⟩) (.slice none 0 0); have r0 := RowAt.cell hX9 (i := 0) rfl; have r1 := RowAt.cell hX9 (i := 1) rfl; have r2 := RowAt.cell hX9 (i := 2) rfl; have r3 := RowAt.cell hX9 (i := 3) rfl; have r4 := RowAt.cell hX9 (i := 4) rfl; have hbw := (below_up hB0 hb4); have hz9 := hb9.size; refine bodyPost_ret (v := .tuple #[zeroIt, .int .i64 0, .int .i64 121]) ?_ rfl ?_
        · simp [results, Tryz.results130, go_sem, r0, r1, r2, r3, r4]
        · exact frE_err HP.out (hbw.trans (hb9.below (fun q e => by omega) hbw.size))
end Go.Proofs.YtpkonagjnfphkaaGreatDoor
