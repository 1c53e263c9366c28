/-
  PrO: several texts in one (bundle.py).
-/
import Derived.Test.YtpkonagjnfphkaaGreatDoorPmY24
import Derived.Test.YtpkonagjnfphkaaGreatDoorPmY25
set_option linter.unusedSimpArgs false
set_option linter.unusedVariables false
set_option maxRecDepth 100000
set_option maxHeartbeats 4000000
namespace Go.Proofs.YtpkonagjnfphkaaGreatDoor
open Go.RowKit Trc Cb
def PrRdE (x : It) (w : World) (en : Ending) (w' : World) : Prop := Below w.heap.size w w' ∧ en = match Prm.readPr x with | some p => .returned (prV p) | none => .panicked (gup 140)
theorem rd_no {x : It} {w w' : World} (h : Prm.readPr x = none) (D : Below w.heap.size w w') : PrRdE x w (.panicked (gup 140)) w' := ⟨D, by rw [h]⟩
theorem rd_yes {x : It} {w w' : World} {p : Prm.Pr} (h : Prm.readPr x = some p) (D : Below w.heap.size w w') : PrRdE x w (.returned (prV p)) w' := ⟨D, by rw [h]⟩
theorem eight {l : List It} (h : 8 ≤ l.length) : ∃ a0 a1 a2 a3 a4 a5 a6 a7 rs, l = a0 :: a1 :: a2 :: a3 :: a4 :: a5 :: a6 :: a7 :: rs := by
  match l, h with
  | a0 :: a1 :: a2 :: a3 :: a4 :: a5 :: a6 :: a7 :: rs, _ => exact ⟨a0, a1, a2, a3, a4, a5, a6, a7, rs, rfl⟩
theorem two_len {l : List It} (h : Prm.twoB l = true) : l.length = 2 := by
  unfold Prm.twoB at h; split at h
  · rfl
  · cases h
theorem two_of {l : List It} (h : l.length = 2) : ∃ a b, l = [a, b] := by
  match l, h with
  | [a, b], _ => exact ⟨a, b, rfl⟩
theorem two_at {a b : It} (h : Prm.twoB [a, b] = true) : a.k = 1 ∧ a.n ≤ 4611686018427387903 ∧ b.k = 1 ∧ b.n ≤ 4294967295 := by
  unfold Prm.twoB at h; exact of_decide_eq_true h
theorem two_mk {a b : It} (h : a.k = 1 ∧ a.n ≤ 4611686018427387903 ∧ b.k = 1 ∧ b.n ≤ 4294967295) : Prm.twoB [a, b] = true := by
  unfold Prm.twoB; exact decide_eq_true h
theorem last0 {k : Nat} {rs : List It} (h : Prm.lastB (((k : Nat) : Int)).toNat rs = true) (hk : k = 0 := by rfl) : rs.length = 0 := by
  subst hk
  match rs with
  | [] => rfl
  | [c] => simp [Prm.lastB] at h
  | a :: b :: r => simp [Prm.lastB] at h
theorem last1 {k : Nat} (hk : k ≠ 0) {rs : List It} (h : Prm.lastB (((k : Nat) : Int)).toNat rs = true) : rs.length = 1 := by
  match rs with
  | [] => simp [Prm.lastB] at h; omega
  | [c] => rfl
  | a :: b :: r => simp [Prm.lastB] at h
theorem one_of {l : List It} (h : l.length = 1) : ∃ a, l = [a] := by
  match l, h with
  | [a], _ => exact ⟨a, rfl⟩
theorem lastk {k : Nat} {c : It} (h : Prm.lastB (((k : Nat) : Int)).toNat [c] = true) : c.k = 2 ∧ c.b.length = Sum.wd k := by
  have h2 : k ≠ 0 ∧ c.k = 2 ∧ c.b.length = Sum.wd k := of_decide_eq_true h; exact h2.2
theorem lastk_of {k : Nat} {c : It} (h0 : k ≠ 0) (h1 : c.k = 2) (h2 : c.b.length = Sum.wd k) : Prm.lastB (((k : Nat) : Int)).toNat [c] = true := decide_eq_true (show k ≠ 0 ∧ c.k = 2 ∧ c.b.length = Sum.wd k from ⟨h0, h1, h2⟩)
theorem last0_of {rs : List It} (h : rs.length = 0) : Prm.lastB ((((0 : Nat) : Nat) : Int)).toNat rs = true := by
  rw [List.eq_nil_of_length_eq_zero h]; rfl
abbrev RdC (a0 a1 a2 a3 a4 a5 a6 a7 : It) (r : List It) : Prop := (a0.k = 1 ∧ a0.n = 7) ∧ (a1.k = 1 ∧ a1.n ≤ 4294967295) ∧ (a2.k = 1 ∧ a2.n ≤ 2) ∧ (okE a3 = true ∧ okE a4 = true ∧ okE a5 = true) ∧ (a6.k = 4 ∧ Prm.twoB a6.l = true) ∧ (a7.k = 1 ∧ a7.n ≤ 4611686018427387903) ∧ Prm.okPr (Prm.mkPr a1 a2 a3 a4 a5 a6 a7) = true ∧ Prm.lastB a2.n.toNat r = true
theorem rdNo {x a0 a1 a2 a3 a4 a5 a6 a7 : It} {r : List It} (h : Prm.readPr x = if Prm.rdB a0 a1 a2 a3 a4 a5 a6 a7 r = true then some (Prm.mkPr a1 a2 a3 a4 a5 a6 a7) else none) (hn : ¬ RdC a0 a1 a2 a3 a4 a5 a6 a7 r) : Prm.readPr x = none := by
  rw [h, if_neg]; intro e; unfold Prm.rdB at e; exact hn (of_decide_eq_true e)
theorem rdYes {x a0 a1 a2 a3 a4 a5 a6 a7 : It} {r : List It} (h : Prm.readPr x = if Prm.rdB a0 a1 a2 a3 a4 a5 a6 a7 r = true then some (Prm.mkPr a1 a2 a3 a4 a5 a6 a7) else none) (hn : RdC a0 a1 a2 a3 a4 a5 a6 a7 r) : Prm.readPr x = some (Prm.mkPr a1 a2 a3 a4 a5 a6 a7) := by
  rw [h, if_pos]; unfold Prm.rdB; exact decide_eq_true hn
theorem prRead_c (x : It) (r : Rw) (w : World) (hr : ItR (fun j => j < w.heap.size) w x r) (hcx : Cb.cnt x ≤ 1000000) : Calls Tryz.prog 60 #[rwV r] w (PrRdE x w) := by
  obtain ⟨k0, n0, ba0, bn0, bc0, s0, la0, ln0, lc0, rfl⟩ := hr.shape; obtain ⟨rows, p⟩ := hr.parts
  have hll : ln0 = x.l.length := by obtain ⟨a, c, h⟩ := p.l.1.len; simp at h; omega
  obtain ⟨W0, hW0⟩ : ∃ W0, (w.alloc (.cells (rwC ⟨k0, n0, .slice ba0 bn0 bc0, s0, .slice la0 ln0 lc0⟩).toArray 62)).alloc (.cells #[.int .u32 0, .int .i64 0, .int .u32 0, .int .u32 0, .int .u32 0, .int .u32 0, .int .u32 0, .int .u32 0, .int .u64 0, .int .u32 0, .int .u64 0] 28) = W0 := ⟨_, rfl⟩
  have hW1 : Below w.heap.size w W0 := by rw [← hW0]; exact (below_alloc w (.cells (rwC ⟨k0, n0, .slice ba0 bn0 bc0, s0, .slice la0 ln0 lc0⟩).toArray 62)).alloc (by simp) (.cells #[.int .u32 0, .int .i64 0, .int .u32 0, .int .u32 0, .int .u32 0, .int .u32 0, .int .u32 0, .int .u32 0, .int .u64 0, .int .u32 0, .int .u64 0] 28)
  have X0 : RowAt W0 w.heap.size (rwC ⟨k0, n0, .slice ba0 bn0 bc0, s0, .slice la0 ln0 lc0⟩).toArray 62 := by rw [← hW0]; exact (RowAt.new w _ _).below (below_alloc _ _)
  have Z0 : RowAt W0 (w.heap.size + 1) #[.int .u32 0, .int .i64 0, .int .u32 0, .int .u32 0, .int .u32 0, .int .u32 0, .int .u32 0, .int .u32 0, .int .u64 0, .int .u32 0, .int .u64 0] 28 := by
    have := RowAt.new (w.alloc (.cells (rwC ⟨k0, n0, .slice ba0 bn0 bc0, s0, .slice la0 ln0 lc0⟩).toArray 62)) #[.int .u32 0, .int .i64 0, .int .u32 0, .int .u32 0, .int .u32 0, .int .u32 0, .int .u32 0, .int .u32 0, .int .u64 0, .int .u32 0, .int .u64 0] 28; rw [hW0, World.size_alloc] at this; exact this
  have hs0 : W0.heap.size = w.heap.size + 2 := by rw [← hW0]; simp
  have HS0 := Lib.hid hs0; have HZ0 := Lib.hid Z0; have HW1 := Lib.hid hW1; have HX := Lib.hid hr; have HCX := Lib.hid hcx; have HLL := Lib.hid hll; have HP := Lib.hid p; have x0 := X0.cell (i := 0) (v := .int .i64 k0) rfl; have x1 := X0.cell (i := 1) (v := .int .u64 n0) rfl; have x2 := X0.cell (i := 2) (v := .slice ba0 bn0 bc0) rfl; have x3 := X0.cell (i := 3) (v := .string s0) rfl; have x4 := X0.cell (i := 4) (v := .slice la0 ln0 lc0) rfl; have has := prAs_c (fun j => j < w.heap.size) x ⟨k0, n0, .slice ba0 bn0 bc0, s0, .slice la0 ln0 lc0⟩ 4 W0 (hr.up hW1); clear hs0 Z0 hW1 hr hcx hll p X0; go_enter Tryz.func60, Tryz.ntmps60
  go_wp2_with fail
  by_cases hk : x.k = 4; rotate_left
  · have HNO := Lib.hid (show Prm.readPr x = none from Prm.readPr_kind hk)
    rw [GvE_no hk] at has; refine has.mono ?_; rintro en w1 ⟨hb1, rfl⟩; go_wp2; exact (And.intro rfl (rd_no HNO.out (below_up HW1.out hb1)))
  rw [GvE_yes hk] at has; have HK := Lib.hid hk; have has2 : Calls Tryz.prog 99 #[rwV ⟨k0, n0, .slice ba0 bn0 bc0, s0, .slice la0 ln0 lc0⟩, .int .i64 4] W0 (fun en w' => Below W0.heap.size W0 w' ∧ en = .returned (.agg #[.int .i64 k0, .int .u64 n0, .slice ba0 bn0 bc0, .string s0, .slice la0 ln0 lc0])) := has; refine has2.mono ?_; rintro en w1 ⟨hb1, rfl⟩; clear has has2 hk x0 x1 x2 x3 x4; have D1 := below_up HW1.out hb1; have Z1 := HZ0.out.below hb1; clear hb1
  have hf4 := fun (a : Int) (b : Int) (c e : Value) (d : ByteArray) => prField4 (.int .i64 a) (.int .u64 b) c (.string d) e
  by_cases h8 : 8 ≤ ln0; rotate_left
  · have HNO := Lib.hid (show Prm.readPr x = none from Prm.readPr_short (by rw [← HLL.out]; omega))
    have hd : decide ((8 : Int) ≤ (ln0 : Int)) = false := decide_eq_false (by omega)
    go_wp2_with (first
      | (go_at_call 42; with_reducible refine (prMust_no _ _).mono ?_; rintro en wn ⟨rfl, rfl⟩))
    exact (And.intro rfl (rd_no HNO.out D1))
  have hd : decide ((8 : Int) ≤ (ln0 : Int)) = true := decide_eq_true (by omega); obtain ⟨a0, a1, a2, a3, a4, a5, a6, a7, rs, hl⟩ : ∃ a0 a1 a2 a3 a4 a5 a6 a7 rs, x.l = a0 :: a1 :: a2 :: a3 :: a4 :: a5 :: a6 :: a7 :: rs := eight (by rw [← HLL.out]; exact h8); have he := HP.out.each; rw [hl] at he; simp only [ItsR] at he; obtain ⟨r0, _, rfl, e0, r1, _, rfl, e1, r2, _, rfl, e2, r3, _, rfl, e3, r4, _, rfl, e4, r5, _, rfl, e5, r6, _, rfl, e6, r7, qs, rfl, e7, eqs⟩ := he; obtain ⟨k10, n10, ba10, bn10, bc10, s10, la10, ln10, lc10, rfl⟩ := e0.shape; obtain ⟨k11, n11, ba11, bn11, bc11, s11, la11, ln11, lc11, rfl⟩ := e1.shape; obtain ⟨k12, n12, ba12, bn12, bc12, s12, la12, ln12, lc12, rfl⟩ := e2.shape; obtain ⟨k13, n13, ba13, bn13, bc13, s13, la13, ln13, lc13, rfl⟩ := e3.shape; obtain ⟨k14, n14, ba14, bn14, bc14, s14, la14, ln14, lc14, rfl⟩ := e4.shape; obtain ⟨k15, n15, ba15, bn15, bc15, s15, la15, ln15, lc15, rfl⟩ := e5.shape
  obtain ⟨k16, n16, ba16, bn16, bc16, s16, la16, ln16, lc16, rfl⟩ := e6.shape; obtain ⟨k17, n17, ba17, bn17, bc17, s17, la17, ln17, lc17, rfl⟩ := e7.shape
  have hl5 : Sl w 5 (.slice la0 ln0 lc0) ln0 (((⟨k10, n10, .slice ba10 bn10 bc10, s10, .slice la10 ln10 lc10⟩ :: ⟨k11, n11, .slice ba11 bn11 bc11, s11, .slice la11 ln11 lc11⟩ :: ⟨k12, n12, .slice ba12 bn12 bc12, s12, .slice la12 ln12 lc12⟩ :: ⟨k13, n13, .slice ba13 bn13 bc13, s13, .slice la13 ln13 lc13⟩ :: ⟨k14, n14, .slice ba14 bn14 bc14, s14, .slice la14 ln14 lc14⟩ :: ⟨k15, n15, .slice ba15 bn15 bc15, s15, .slice la15 ln15 lc15⟩ :: ⟨k16, n16, .slice ba16 bn16 bc16, s16, .slice la16 ln16 lc16⟩ :: ⟨k17, n17, .slice ba17 bn17 bc17, s17, .slice la17 ln17 lc17⟩ :: qs).flatMap rwC)) := by have := HP.out.l.1; rw [← HLL.out] at this; exact this
  obtain ⟨b, off, rfl, hr0⟩ := hl5.rec_at (cells := rwC) (sz := 5) (fun _ => rfl) (k := 0) (by omega) (by simp); obtain ⟨b1, off1, hbb, hr1⟩ := hl5.rec_at (cells := rwC) (sz := 5) (fun _ => rfl) (k := 1) (by omega) (by simp); cases hbb; obtain ⟨b2, off2, hbb, hr2⟩ := hl5.rec_at (cells := rwC) (sz := 5) (fun _ => rfl) (k := 2) (by omega) (by simp); cases hbb; obtain ⟨b3, off3, hbb, hr3⟩ := hl5.rec_at (cells := rwC) (sz := 5) (fun _ => rfl) (k := 3) (by omega) (by simp); cases hbb; obtain ⟨b4, off4, hbb, hr4⟩ := hl5.rec_at (cells := rwC) (sz := 5) (fun _ => rfl) (k := 4) (by omega) (by simp); cases hbb; obtain ⟨b5, off5, hbb, hr5⟩ := hl5.rec_at (cells := rwC) (sz := 5) (fun _ => rfl) (k := 5) (by omega) (by simp); cases hbb; obtain ⟨b6, off6, hbb, hr6⟩ := hl5.rec_at (cells := rwC) (sz := 5) (fun _ => rfl) (k := 6) (by omega) (by simp); cases hbb; obtain ⟨b7, off7, hbb, hr7⟩ := hl5.rec_at (cells := rwC) (sz := 5) (fun _ => rfl) (k := 7) (by omega) (by simp)
  cases hbb; simp only [List.getElem_cons_succ, List.getElem_cons_zero] at hr0 hr1 hr2 hr3 hr4 hr5 hr6 hr7; have HR0 := Lib.hid hr0; have HE0 := Lib.hid e0; have HR1 := Lib.hid hr1; have HE1 := Lib.hid e1; have HR2 := Lib.hid hr2; have HE2 := Lib.hid e2; have HR3 := Lib.hid hr3; have HE3 := Lib.hid e3; have HR4 := Lib.hid hr4; have HE4 := Lib.hid e4; have HR5 := Lib.hid hr5; have HE5 := Lib.hid e5; have HR6 := Lib.hid hr6; have HE6 := Lib.hid e6; have HR7 := Lib.hid hr7; have HE7 := Lib.hid e7; have HBL := Lib.hid (show b < w.heap.size by have h := World.block_lt_of_cell? w _ (hr0 0 _ rfl); exact h); have HL5 := Lib.hid hl5; have HQ := Lib.hid eqs; have HL := Lib.hid hl; have HAT := Lib.hid (Prm.readPr_at hl HK.out)
  have hcnt : ∀ y ∈ x.l, Cb.cnt y ≤ 1000000 := fun y hy => by have := Cb.cnt_mem hy; have := HCX.out; omega
  have HCN := Lib.hid hcnt; clear hl5 eqs hl hcnt HP hr0 hr1 hr2 hr3 hr4 hr5 hr6 hr7; obtain ⟨q0, Q0⟩ := e0.parts; have lo0 := Q0.lo; have hi0 := Q0.hi; have nn0 := Q0.n; simp only at nn0; rw [← nn0] at lo0 hi0; obtain ⟨m0, rfl⟩ : ∃ m : Nat, n10 = m := ⟨n10.toNat, by omega⟩; have HN0 := Lib.hid nn0.symm; have HH0 := Lib.hid (show m0 ≤ 18446744073709551615 by omega); clear Q0 q0 lo0 hi0 nn0; obtain ⟨q1, Q1⟩ := e1.parts; have lo1 := Q1.lo; have hi1 := Q1.hi; have nn1 := Q1.n; simp only at nn1; rw [← nn1] at lo1 hi1; obtain ⟨m1, rfl⟩ : ∃ m : Nat, n11 = m := ⟨n11.toNat, by omega⟩; have HN1 := Lib.hid nn1.symm; have HH1 := Lib.hid (show m1 ≤ 18446744073709551615 by omega); clear Q1 q1 lo1 hi1 nn1; obtain ⟨q2, Q2⟩ := e2.parts; have lo2 := Q2.lo; have hi2 := Q2.hi; have nn2 := Q2.n; simp only at nn2; rw [← nn2] at lo2 hi2; obtain ⟨m2, rfl⟩ : ∃ m : Nat, n12 = m := ⟨n12.toNat, by omega⟩; have HN2 := Lib.hid nn2.symm
  have HH2 := Lib.hid (show m2 ≤ 18446744073709551615 by omega); clear Q2 q2 lo2 hi2 nn2; obtain ⟨q7, Q7⟩ := e7.parts; have lo7 := Q7.lo; have hi7 := Q7.hi; have nn7 := Q7.n; simp only at nn7; rw [← nn7] at lo7 hi7; obtain ⟨m7, rfl⟩ : ∃ m : Nat, n17 = m := ⟨n17.toNat, by omega⟩; have HN7 := Lib.hid nn7.symm; have HH7 := Lib.hid (show m7 ≤ 18446744073709551615 by omega); clear Q7 q7 lo7 hi7 nn7; clear e0 e1 e2 e3 e4 e5 e6 e7; have D1b := D1; have hrc := rangeAt_up D1 HR0.out; have c0 := hrc 0 _ rfl; have c1 := hrc 1 _ rfl; have c2 := hrc 2 _ rfl; have c3 := hrc 3 _ rfl; have c4 := hrc 4 _ rfl; clear hrc; simp only [Nat.reduceMul, Nat.add_assoc, Nat.reduceAdd, Nat.zero_mul, Nat.add_zero, Nat.zero_add] at c0 c1 c2 c3 c4
  go_wp2_with (first
    | (go_at_call 42; with_reducible refine (prMust_yes _ _).mono ?_; rintro en wn ⟨rfl, rfl⟩))
  have hu := prUpTo_c (fun j => j < w.heap.size) a0 ⟨k10, m0, .slice ba10 bn10 bc10, s10, .slice la10 ln10 lc10⟩ 7 w1 (HE0.out.up D1); rw [HN0.out] at hu; by_cases hc0 : a0.k = 1 ∧ (m0 : Int) ≤ ((7 : Nat) : Int); rotate_left
  · have HNO := Lib.hid (show Prm.readPr x = none from rdNo HAT.out (fun h => hc0 ⟨h.1.1, by have := h.1.2; rw [HN0.out] at this; omega⟩))
    rw [GvE_no hc0] at hu; refine hu.mono ?_; rintro en w2 ⟨hb2, rfl⟩; go_wp2; exact (And.intro rfl (rd_no HNO.out (below_up D1 hb2)))
  rw [GvE_yes hc0] at hu; refine hu.mono ?_; rintro en w2 ⟨hb2, rfl⟩; clear hu c0 c1 c2 c3 c4; have D2 := below_up D1 hb2; have Z2 := Z1.below hb2; clear hb2 Z1 D1b; by_cases h7 : (m0 : Int) = 7; rotate_left
  · have HNO := Lib.hid (show Prm.readPr x = none from rdNo HAT.out (fun h => h7 (by have := h.1.2; rw [HN0.out] at this; exact this)))
    have hd7 : ((m0 : Int) == 7) = false := by rw [beq_eq_false_iff_ne]; exact h7
    go_wp2_with (first
      | (go_at_call 42; with_reducible refine (prMust_no _ _).mono ?_; rintro en wn ⟨rfl, rfl⟩))
    exact (And.intro rfl (rd_no HNO.out D2))
  have hd7 : ((m0 : Int) == 7) = true := by rw [beq_iff_eq]; exact h7
  have HC0 := Lib.hid (show a0.k = 1 ∧ a0.n = 7 from ⟨hc0.1, by rw [HN0.out]; exact h7⟩); clear hc0
  go_wp2_with (first
    | (go_at_call 42; with_reducible refine (prMust_yes _ _).mono ?_; rintro en wn ⟨rfl, rfl⟩))
  have L1 : (1 : Int) < (ln0 : Int) := by omega
  have L2 : (2 : Int) < (ln0 : Int) := by omega
  have L3 : (3 : Int) < (ln0 : Int) := by omega
  have L4 : (4 : Int) < (ln0 : Int) := by omega
  have L5 : (5 : Int) < (ln0 : Int) := by omega
  have L6 : (6 : Int) < (ln0 : Int) := by omega
  have L7 : (7 : Int) < (ln0 : Int) := by omega
  have H88 := Lib.hid h8; clear h8 h7; have HD2 := Lib.hid D2; have HZ2 := Lib.hid Z2; clear D1 D2 Z2 hd hd7; refine wp_region_pt (fun j => j = w.heap.size + 1) (.q 0 (.q 1 (.q 2 (.q 5 (.q 6 (.q 7 (.c 3 (.q 4 (.q 10 (.c 8 (.q 9 (.c 11 (.q 12 (.c 13 .done)))))))))))))) (by kernel_rfl) (by kernel_rfl) (by kernel_rfl) (by decide) (fun _ _ d _ _ h => by cases d <;> exact h) (fun Wd hBd => ?_)
  try simp only [zq]
  have HDa := Lib.hid (below_up HD2.out hBd); have hrc := rangeAt_up HDa.out HR1.out; have c0 := hrc 0 _ rfl; have c1 := hrc 1 _ rfl; have c2 := hrc 2 _ rfl; have c3 := hrc 3 _ rfl; have c4 := hrc 4 _ rfl; clear hrc; simp only [Nat.reduceMul, Nat.add_assoc, Nat.reduceAdd, Nat.zero_mul, Nat.add_zero, Nat.zero_add] at c0 c1 c2 c3 c4; have hrc := rangeAt_up HDa.out HR2.out; have d0 := hrc 0 _ rfl; have d1 := hrc 1 _ rfl; have d2 := hrc 2 _ rfl; have d3 := hrc 3 _ rfl; have d4 := hrc 4 _ rfl; clear hrc; simp only [Nat.reduceMul, Nat.add_assoc, Nat.reduceAdd, Nat.zero_mul, Nat.add_zero, Nat.zero_add] at d0 d1 d2 d3 d4; have HZa := Lib.hid (HZ2.out.below hBd); clear hBd; refine zt rfl (by rfl) ?_; refine zt rfl (by rfl) ?_; refine pt_q (v := ?_) rfl (by rfl) ?_ ?_; rotate_left
  · intro w' hBw'
    have qL0 := hBw'.cell c0 (by have := HBL.out; omega); have qL1 := hBw'.cell c1 (by have := HBL.out; omega); have qL2 := hBw'.cell c2 (by have := HBL.out; omega); have qL3 := hBw'.cell c3 (by have := HBL.out; omega); have qL4 := hBw'.cell c4 (by have := HBL.out; omega)
    first | (go_simp; done) | (go_simp; with_reducible rfl)
  try simp only [zq]
  refine zt rfl (by rfl) ?_; refine zt rfl (by rfl) ?_; refine pt_q (v := ?_) rfl (by rfl) ?_ ?_; rotate_left
  · intro w' hBw'
    have qL0 := hBw'.cell d0 (by have := HBL.out; omega); have qL1 := hBw'.cell d1 (by have := HBL.out; omega); have qL2 := hBw'.cell d2 (by have := HBL.out; omega); have qL3 := hBw'.cell d3 (by have := HBL.out; omega); have qL4 := hBw'.cell d4 (by have := HBL.out; omega)
    first | (go_simp; done) | (go_simp; with_reducible rfl)
  try simp only [zq]
  clear c0 c1 c2 c3 c4 d0 d1 d2 d3 d4
  refine zc fun K hK => ?_
  go_simp; have hu := prUpTo_c (fun j => j < w.heap.size) a1 ⟨k11, m1, .slice ba11 bn11 bc11, s11, .slice la11 ln11 lc11⟩ 4294967295 Wd (HE1.out.up HDa.out); rw [HN1.out] at hu; by_cases hc1 : a1.k = 1 ∧ (m1 : Int) ≤ ((4294967295 : Nat) : Int); rotate_left
  · have HNO := Lib.hid (show Prm.readPr x = none from rdNo HAT.out (fun h => hc1 ⟨h.2.1.1, by have := h.2.1.2; rw [HN1.out] at this; omega⟩))
    rw [GvE_no hc1] at hu; refine hu.mono ?_; rintro en w3 ⟨hb, rfl⟩; exact (And.intro rfl (rd_no HNO.out (below_up HDa.out hb)))
  rw [GvE_yes hc1] at hu; refine hu.mono ?_; rintro en w3 ⟨hb, rfl⟩; clear hu; refine hK.out _ _ (But.of_below hb) ?_; clear hK K
  try simp only [zq]
  have hw1 : IntKind.u32.wrap (m1 : Int) = m1 := by rw [IntKind.wrap_u32]; omega
  have HDb := Lib.hid (below_up HDa.out hb); have HZb := Lib.hid (HZa.out.below hb); clear hb; refine zt rfl (by rfl) ?_; refine zt rfl (by rfl) ?_
  refine zc fun K hK => ?_
  go_simp; have hu := prUpTo_c (fun j => j < w.heap.size) a2 ⟨k12, m2, .slice ba12 bn12 bc12, s12, .slice la12 ln12 lc12⟩ 2 w3 (HE2.out.up HDb.out); rw [HN2.out] at hu; by_cases hc2 : a2.k = 1 ∧ (m2 : Int) ≤ ((2 : Nat) : Int); rotate_left
  · have HNO := Lib.hid (show Prm.readPr x = none from rdNo HAT.out (fun h => hc2 ⟨h.2.2.1.1, by have := h.2.2.1.2; rw [HN2.out] at this; omega⟩))
    rw [GvE_no hc2] at hu; refine hu.mono ?_; rintro en w4 ⟨hb, rfl⟩; exact (And.intro rfl (rd_no HNO.out (below_up HDb.out hb)))
  rw [GvE_yes hc2] at hu; refine hu.mono ?_; rintro en w4 ⟨hb, rfl⟩; clear hu; refine hK.out _ _ (But.of_below hb) ?_; clear hK K
  try simp only [zq]
  have hw2 : IntKind.i64.wrap (m2 : Int) = m2 := by rw [IntKind.wrap_i64]; omega
  have D4 := below_up HDb.out hb; have Z4 := HZb.out.below hb; clear hb; have z0 := Z4.cell (i := 0) (v := .int .u32 0) rfl; have f0 := Z4.fz 0; refine zt rfl (by rfl) ?_
  refine zc fun K hK => ?_
  go_simp; refine hK.out _ _ (But.setCell _ _ _ (.inl rfl)) ?_; clear hK K
  try simp only [zq]
  have Z4a := Z4.set 0 (.int .u32 m1); clear z0 f0; have z1 := Z4a.cell (i := 1) (v := .int .i64 0) rfl; have f1 := Z4a.fz 1; refine zt rfl (by rfl) ?_
  refine zc fun K hK => ?_
  go_simp; refine hK.out _ _ (But.setCell _ _ _ (.inl rfl)) ?_; clear hK K
  try simp only [zq]
  refine pt_done ?_; clear z1 f1 hw1 hw2; have Z5 := Z4a.set 1 (.int .i64 m2); have hB5 := (But.setCell (O := fun j => j = w.heap.size + 1) w4 ⟨w.heap.size + 1, 0, none⟩ (.int .u32 m1) (.inl rfl)).trans (But.setCell _ ⟨w.heap.size + 1, 1, none⟩ (.int .i64 m2) (.inl rfl)); have D5 := D4.trans (hB5.below (fun j e => by omega) D4.size); obtain ⟨w5, hw5⟩ : ∃ w5, w5 = (w4.setCell ⟨w.heap.size + 1, 0, none⟩ (.int .u32 m1)).setCell ⟨w.heap.size + 1, 1, none⟩ (.int .i64 m2) := ⟨_, rfl⟩; rw [← hw5] at Z5 D5 ⊢; have HD5 := Lib.hid D5; have HZ5 := Lib.hid (show RowAt w5 (w.heap.size + 1) #[.int .u32 m1, .int .i64 m2, .int .u32 0, .int .u32 0, .int .u32 0, .int .u32 0, .int .u32 0, .int .u32 0, .int .u64 0, .int .u32 0, .int .u64 0] 28 from Z5); have HC1 := Lib.hid hc1; have HC2 := Lib.hid hc2; clear Z5 D5 hB5 hw5 Z4a Z4 D4 hc1 hc2; have HGO := Lib.hid True.intro; go_wp2; refine wp_region_pt (fun j => j = w.heap.size + 1) (.q 0 (.q 1 (.q 2 (.q 4 (.q 5 (.q 6 (.q 8 (.q 9 (.q 10 (.c 3 (.q 12 (.c 7 (.c 11 (.c 13 (.q 14 (.c 15 (.q 16 (.c 17 .done)))))))))))))))))) (by kernel_rfl) (by kernel_rfl) (by kernel_rfl) (by decide) (fun _ _ d _ _ h => by cases d <;> exact h) (fun Wd hBd => ?_)
  try simp only [zq]
  have HDa := Lib.hid (below_up HD5.out hBd); have hrc := rangeAt_up HDa.out HR3.out; have c0 := hrc 0 _ rfl; have c1 := hrc 1 _ rfl; have c2 := hrc 2 _ rfl; have c3 := hrc 3 _ rfl; have c4 := hrc 4 _ rfl; clear hrc; simp only [Nat.reduceMul, Nat.add_assoc, Nat.reduceAdd, Nat.zero_mul, Nat.add_zero, Nat.zero_add] at c0 c1 c2 c3 c4; have hrc := rangeAt_up HDa.out HR4.out; have d0 := hrc 0 _ rfl; have d1 := hrc 1 _ rfl; have d2 := hrc 2 _ rfl; have d3 := hrc 3 _ rfl; have d4 := hrc 4 _ rfl; clear hrc; simp only [Nat.reduceMul, Nat.add_assoc, Nat.reduceAdd, Nat.zero_mul, Nat.add_zero, Nat.zero_add] at d0 d1 d2 d3 d4; have hrc := rangeAt_up HDa.out HR5.out; have e0 := hrc 0 _ rfl; have e1 := hrc 1 _ rfl; have e2 := hrc 2 _ rfl; have e3 := hrc 3 _ rfl; have e4 := hrc 4 _ rfl; clear hrc; simp only [Nat.reduceMul, Nat.add_assoc, Nat.reduceAdd, Nat.zero_mul, Nat.add_zero, Nat.zero_add] at e0 e1 e2 e3 e4
  have HZa := Lib.hid (HZ5.out.below hBd); clear hBd; refine zt rfl (by rfl) ?_; refine zt rfl (by rfl) ?_; refine pt_q (v := ?_) rfl (by rfl) ?_ ?_; rotate_left
  · intro w' hBw'
    have qL0 := hBw'.cell c0 (by have := HBL.out; omega); have qL1 := hBw'.cell c1 (by have := HBL.out; omega); have qL2 := hBw'.cell c2 (by have := HBL.out; omega); have qL3 := hBw'.cell c3 (by have := HBL.out; omega); have qL4 := hBw'.cell c4 (by have := HBL.out; omega)
    first | (go_simp; done) | (go_simp; with_reducible rfl)
  try simp only [zq]
  refine zt rfl (by rfl) ?_; refine zt rfl (by rfl) ?_; refine pt_q (v := ?_) rfl (by rfl) ?_ ?_; rotate_left
  · intro w' hBw'
    have qL0 := hBw'.cell d0 (by have := HBL.out; omega); have qL1 := hBw'.cell d1 (by have := HBL.out; omega); have qL2 := hBw'.cell d2 (by have := HBL.out; omega); have qL3 := hBw'.cell d3 (by have := HBL.out; omega); have qL4 := hBw'.cell d4 (by have := HBL.out; omega)
    first | (go_simp; done) | (go_simp; with_reducible rfl)
  try simp only [zq]
  refine zt rfl (by rfl) ?_; refine zt rfl (by rfl) ?_; refine pt_q (v := ?_) rfl (by rfl) ?_ ?_; rotate_left
  · intro w' hBw'
    have qL0 := hBw'.cell e0 (by have := HBL.out; omega); have qL1 := hBw'.cell e1 (by have := HBL.out; omega); have qL2 := hBw'.cell e2 (by have := HBL.out; omega); have qL3 := hBw'.cell e3 (by have := HBL.out; omega); have qL4 := hBw'.cell e4 (by have := HBL.out; omega)
    first | (go_simp; done) | (go_simp; with_reducible rfl)
  try simp only [zq]
  clear c0 c1 c2 c3 c4 d0 d1 d2 d3 d4 e0 e1 e2 e3 e4
  refine zc fun K hK => ?_
  go_simp; have hu := prOf_c a3 ⟨k13, n13, .slice ba13 bn13 bc13, s13, .slice la13 ln13 lc13⟩ Wd ((HE3.out.up HDa.out).mono (fun j e => Nat.lt_of_lt_of_le e (HDa.out).size)) (HCN.out _ (by rw [HL.out]; simp)); by_cases hc3 : okE a3 = true; rotate_left
  · have HNO := Lib.hid (show Prm.readPr x = none from rdNo HAT.out (fun h => hc3 h.2.2.2.1.1))
    rw [GvE_no hc3] at hu; refine hu.mono ?_; rintro en w6 ⟨hb, rfl⟩; exact (And.intro rfl (rd_no HNO.out (below_up HDa.out hb)))
  rw [GvE_yes hc3] at hu; refine hu.mono ?_; rintro en w6 ⟨hb, rfl⟩; clear hu; refine hK.out _ _ (But.of_below hb) ?_; clear hK K
  try simp only [zq]
  have HDb := Lib.hid (below_up HDa.out hb); have HZb := Lib.hid (HZa.out.below hb); clear hb; refine zt rfl (by rfl) ?_
  refine zc fun K hK => ?_
  go_simp; have hu := prOf_c a4 ⟨k14, n14, .slice ba14 bn14 bc14, s14, .slice la14 ln14 lc14⟩ w6 ((HE4.out.up HDb.out).mono (fun j e => Nat.lt_of_lt_of_le e (HDb.out).size)) (HCN.out _ (by rw [HL.out]; simp)); by_cases hc4 : okE a4 = true; rotate_left
  · have HNO := Lib.hid (show Prm.readPr x = none from rdNo HAT.out (fun h => hc4 h.2.2.2.1.2.1))
    rw [GvE_no hc4] at hu; refine hu.mono ?_; rintro en w7 ⟨hb, rfl⟩; exact (And.intro rfl (rd_no HNO.out (below_up HDb.out hb)))
  rw [GvE_yes hc4] at hu; refine hu.mono ?_; rintro en w7 ⟨hb, rfl⟩; clear hu; refine hK.out _ _ (But.of_below hb) ?_; clear hK K
  try simp only [zq]
  have HDc := Lib.hid (below_up HDb.out hb); have HZc := Lib.hid (HZb.out.below hb); clear hb
  refine zc fun K hK => ?_
  go_simp; have hu := prOf_c a5 ⟨k15, n15, .slice ba15 bn15 bc15, s15, .slice la15 ln15 lc15⟩ w7 ((HE5.out.up HDc.out).mono (fun j e => Nat.lt_of_lt_of_le e (HDc.out).size)) (HCN.out _ (by rw [HL.out]; simp)); by_cases hc5 : okE a5 = true; rotate_left
  · have HNO := Lib.hid (show Prm.readPr x = none from rdNo HAT.out (fun h => hc5 h.2.2.2.1.2.2))
    rw [GvE_no hc5] at hu; refine hu.mono ?_; rintro en w8 ⟨hb, rfl⟩; exact (And.intro rfl (rd_no HNO.out (below_up HDc.out hb)))
  rw [GvE_yes hc5] at hu; refine hu.mono ?_; rintro en w8 ⟨hb, rfl⟩; clear hu; refine hK.out _ _ (But.of_below hb) ?_; clear hK K
  try simp only [zq]
  have D8 := below_up HDc.out hb; have Z8 := HZc.out.below hb; clear hb; generalize hA3 : ofA a3 = A3; generalize hA4 : ofA a4 = A4; generalize hA5 : ofA a5 = A5; generalize hB3 : ofB a3 = B3; generalize hB4 : ofB a4 = B4; generalize hB5 : ofB a5 = B5; have HA3 := Lib.hid hA3; have HA4 := Lib.hid hA4; have HA5 := Lib.hid hA5; have HB3 := Lib.hid hB3; have HB4 := Lib.hid hB4; have HB5 := Lib.hid hB5; clear hA3 hA4 hA5 hB3 hB4 hB5; have z2 := Z8.cell (i := 2) (v := .int .u32 0) rfl; have f2 := Z8.fz 2; have z3 := Z8.cell (i := 3) (v := .int .u32 0) rfl; have f3 := Z8.fz 3
  refine zc fun K hK => ?_
  go_simp; refine hK.out _ _ ((But.setCell (O := fun j => j = w.heap.size + 1) _ _ _ (.inl rfl)).trans (But.setCell (O := fun j => j = w.heap.size + 1) _ _ _ (.inl rfl))) ?_; clear hK K
  try simp only [zq]
  have Z8a := (Z8.set 2 (.int .u32 A3)).set 3 (.int .u32 B3); clear z2 z3 f2 f3; have z4 := Z8a.cell (i := 4) (v := .int .u32 0) rfl; have f4 := Z8a.fz 4; have z5 := Z8a.cell (i := 5) (v := .int .u32 0) rfl; have f5 := Z8a.fz 5; refine zt rfl (by rfl) ?_
  refine zc fun K hK => ?_
  go_simp; refine hK.out _ _ ((But.setCell (O := fun j => j = w.heap.size + 1) _ _ _ (.inl rfl)).trans (But.setCell (O := fun j => j = w.heap.size + 1) _ _ _ (.inl rfl))) ?_; clear hK K
  try simp only [zq]
  have Z8b := (Z8a.set 4 (.int .u32 A4)).set 5 (.int .u32 B4); clear z4 z5 f4 f5; have z6 := Z8b.cell (i := 6) (v := .int .u32 0) rfl; have f6 := Z8b.fz 6; have z7 := Z8b.cell (i := 7) (v := .int .u32 0) rfl; have f7 := Z8b.fz 7; refine zt rfl (by rfl) ?_
  refine zc fun K hK => ?_
  go_simp; refine hK.out _ _ ((But.setCell (O := fun j => j = w.heap.size + 1) _ _ _ (.inl rfl)).trans (But.setCell (O := fun j => j = w.heap.size + 1) _ _ _ (.inl rfl))) ?_; clear hK K
  try simp only [zq]
  refine pt_done ?_; clear z6 z7 f6 f7; have Z9 := (Z8b.set 6 (.int .u32 A5)).set 7 (.int .u32 B5); have hB9 : But (fun j => j = w.heap.size + 1) w8 ((((((w8.setCell ⟨w.heap.size + 1, 2, none⟩ (.int .u32 A3)).setCell ⟨w.heap.size + 1, 3, none⟩ (.int .u32 B3)).setCell ⟨w.heap.size + 1, 4, none⟩ (.int .u32 A4)).setCell ⟨w.heap.size + 1, 5, none⟩ (.int .u32 B4)).setCell ⟨w.heap.size + 1, 6, none⟩ (.int .u32 A5)).setCell ⟨w.heap.size + 1, 7, none⟩ (.int .u32 B5)) := ((((((But.setCell (O := fun j => j = w.heap.size + 1) _ _ _ (.inl rfl)).trans (But.setCell (O := fun j => j = w.heap.size + 1) _ _ _ (.inl rfl))).trans (But.setCell (O := fun j => j = w.heap.size + 1) _ _ _ (.inl rfl))).trans (But.setCell (O := fun j => j = w.heap.size + 1) _ _ _ (.inl rfl))).trans (But.setCell (O := fun j => j = w.heap.size + 1) _ _ _ (.inl rfl))).trans (But.setCell (O := fun j => j = w.heap.size + 1) _ _ _ (.inl rfl)))
  have D9 := D8.trans (hB9.below (fun j e => by omega) D8.size); obtain ⟨w9, hw9⟩ : ∃ w9, w9 = ((((((w8.setCell ⟨w.heap.size + 1, 2, none⟩ (.int .u32 A3)).setCell ⟨w.heap.size + 1, 3, none⟩ (.int .u32 B3)).setCell ⟨w.heap.size + 1, 4, none⟩ (.int .u32 A4)).setCell ⟨w.heap.size + 1, 5, none⟩ (.int .u32 B4)).setCell ⟨w.heap.size + 1, 6, none⟩ (.int .u32 A5)).setCell ⟨w.heap.size + 1, 7, none⟩ (.int .u32 B5)) := ⟨_, rfl⟩; rw [← hw9] at Z9 D9 ⊢; have HZ9 := Lib.hid (show RowAt w9 (w.heap.size + 1) #[.int .u32 m1, .int .i64 m2, .int .u32 A3, .int .u32 B3, .int .u32 A4, .int .u32 B4, .int .u32 A5, .int .u32 B5, .int .u64 0, .int .u32 0, .int .u64 0] 28 from Z9); have HD9 := Lib.hid D9; have HC345 := Lib.hid (And.intro hc3 (And.intro hc4 hc5)); clear Z9 hB9 hw9 Z8a Z8b Z8 D8 hc3 hc4 hc5; obtain ⟨q6, Q6⟩ := HE6.out.parts
  have hl6 : ln16 = a6.l.length := by obtain ⟨a, c, h⟩ := Q6.l.1.len; simp at h; omega
  have HQ6 := Lib.hid Q6; have HL6 := Lib.hid hl6; clear Q6 hl6; have hrc := rangeAt_up D9 HR6.out; have c0 := hrc 0 _ rfl; have c1 := hrc 1 _ rfl; have c2 := hrc 2 _ rfl; have c3 := hrc 3 _ rfl; have c4 := hrc 4 _ rfl; clear hrc; simp only [Nat.reduceMul, Nat.add_assoc, Nat.reduceAdd, Nat.zero_mul, Nat.add_zero, Nat.zero_add] at c0 c1 c2 c3 c4
  go_wp2_with fail
  have hu := prAs_c (fun j => j < w.heap.size) a6 ⟨k16, n16, .slice ba16 bn16 bc16, s16, .slice la16 ln16 lc16⟩ 4 w9 (HE6.out.up HD9.out); by_cases hc6 : a6.k = 4; rotate_left
  · have HNO := Lib.hid (show Prm.readPr x = none from rdNo HAT.out (fun h => hc6 h.2.2.2.2.1.1))
    rw [GvE_no hc6] at hu; refine hu.mono ?_; rintro en w10 ⟨hb, rfl⟩; go_wp2; exact (And.intro rfl (rd_no HNO.out (below_up HD9.out hb)))
  rw [GvE_yes hc6] at hu; have hu2 : Calls Tryz.prog 99 #[rwV ⟨k16, n16, .slice ba16 bn16 bc16, s16, .slice la16 ln16 lc16⟩, .int .i64 4] w9 (fun en w' => Below w9.heap.size w9 w' ∧ en = .returned (.agg #[.int .i64 k16, .int .u64 n16, .slice ba16 bn16 bc16, .string s16, .slice la16 ln16 lc16])) := hu; refine hu2.mono ?_; rintro en w10 ⟨hb, rfl⟩; clear hu hu2 c0 c1 c2 c3 c4; have D10 := below_up HD9.out hb; have Z10 := HZ9.out.below hb; have HZ10 := Lib.hid Z10; clear hb D9 Z10; by_cases h62 : ln16 = 2; rotate_left
  · have HNO := Lib.hid (show Prm.readPr x = none from rdNo HAT.out (fun h => h62 (by have h2 := h.2.2.2.2.1.2; rw [HL6.out]; exact two_len h2)))
    have hd : ((ln16 : Int) == 2) = false := by rw [beq_eq_false_iff_ne]; omega
    go_wp2_with (first
      | (go_at_call 42; with_reducible refine (prMust_no _ _).mono ?_; rintro en wn ⟨rfl, rfl⟩))
    exact (And.intro rfl (rd_no HNO.out D10))
  subst h62; obtain ⟨t0, t1, hl2⟩ := two_of HL6.out.symm; have hf := HQ6.out.each; rw [hl2] at hf; simp only [ItsR] at hf; obtain ⟨u0, _, rfl, f0, u1, _, rfl, f1, rfl⟩ := hf; obtain ⟨k20, n20, ba20, bn20, bc20, s20, la20, ln20, lc20, rfl⟩ := f0.shape; obtain ⟨k21, n21, ba21, bn21, bc21, s21, la21, ln21, lc21, rfl⟩ := f1.shape
  have hl7 : Sl w 5 (.slice la16 2 lc16) 2 ([⟨k20, n20, .slice ba20 bn20 bc20, s20, .slice la20 ln20 lc20⟩, ⟨k21, n21, .slice ba21 bn21 bc21, s21, .slice la21 ln21 lc21⟩].flatMap rwC) := by have := HQ6.out.l.1; rw [hl2] at this; exact this
  obtain ⟨b', off', rfl, hs0⟩ := hl7.rec_at (cells := rwC) (sz := 5) (fun _ => rfl) (k := 0) (by decide) (by simp); obtain ⟨b'', off'', hbb, hs1⟩ := hl7.rec_at (cells := rwC) (sz := 5) (fun _ => rfl) (k := 1) (by decide) (by simp); cases hbb; simp only [List.getElem_cons_succ, List.getElem_cons_zero] at hs0 hs1; have HBL2 := Lib.hid (show b' < w.heap.size by have h := World.block_lt_of_cell? w _ (hs0 0 _ rfl); exact h); have HR20 := Lib.hid hs0; have HR21 := Lib.hid hs1; have HE20 := Lib.hid f0; have HE21 := Lib.hid f1; obtain ⟨qq20, Q20⟩ := f0.parts; have lo := Q20.lo; have hi := Q20.hi; have nn := Q20.n; simp only at nn; rw [← nn] at lo hi; obtain ⟨m20, rfl⟩ : ∃ m : Nat, n20 = m := ⟨n20.toNat, by omega⟩; have HN20 := Lib.hid nn.symm; clear Q20 qq20 lo hi nn; obtain ⟨qq21, Q21⟩ := f1.parts; have lo := Q21.lo; have hi := Q21.hi; have nn := Q21.n; simp only at nn; rw [← nn] at lo hi; obtain ⟨m21, rfl⟩ : ∃ m : Nat, n21 = m := ⟨n21.toNat, by omega⟩
  have HN21 := Lib.hid nn.symm; clear Q21 qq21 lo hi nn; have HL2 := Lib.hid hl2; have HC6 := Lib.hid hc6; have HD10 := Lib.hid D10; clear f0 f1 hs0 hs1 hl7 hl2 hc6 HQ6 D10
  go_wp2_with (first
    | (go_at_call 42; with_reducible refine (prMust_yes _ _).mono ?_; rintro en wn ⟨rfl, rfl⟩))
  refine wp_region_pt (fun j => j = w.heap.size + 1) (.q 0 (.q 1 (.q 2 (.q 4 (.q 5 (.q 6 (.q 9 (.q 10 (.q 11 (.c 3 (.q 13 (.c 7 (.q 8 (.c 12 (.c 14 (.q 15 (.c 16 (.q 17 (.c 18 .done))))))))))))))))))) (by kernel_rfl) (by kernel_rfl) (by kernel_rfl) (by decide) (fun _ _ d _ _ h => by cases d <;> exact h) (fun Wd hBd => ?_)
  try simp only [zq]
  have HDa := Lib.hid (below_up HD10.out hBd); have hrc := rangeAt_up HDa.out HR20.out; have c0 := hrc 0 _ rfl; have c1 := hrc 1 _ rfl; have c2 := hrc 2 _ rfl; have c3 := hrc 3 _ rfl; have c4 := hrc 4 _ rfl; clear hrc; simp only [Nat.reduceMul, Nat.add_assoc, Nat.reduceAdd, Nat.zero_mul, Nat.add_zero, Nat.zero_add] at c0 c1 c2 c3 c4; have hrc := rangeAt_up HDa.out HR21.out; have d0 := hrc 0 _ rfl; have d1 := hrc 1 _ rfl; have d2 := hrc 2 _ rfl; have d3 := hrc 3 _ rfl; have d4 := hrc 4 _ rfl; clear hrc; simp only [Nat.reduceMul, Nat.add_assoc, Nat.reduceAdd, Nat.zero_mul, Nat.add_zero, Nat.zero_add] at d0 d1 d2 d3 d4; have hrc := rangeAt_up HDa.out HR7.out; have e0 := hrc 0 _ rfl; have e1 := hrc 1 _ rfl; have e2 := hrc 2 _ rfl; have e3 := hrc 3 _ rfl; have e4 := hrc 4 _ rfl; clear hrc; simp only [Nat.reduceMul, Nat.add_assoc, Nat.reduceAdd, Nat.zero_mul, Nat.add_zero, Nat.zero_add] at e0 e1 e2 e3 e4
  have HZa := Lib.hid (HZ10.out.below hBd); clear hBd; refine zt rfl (by rfl) ?_; refine zt rfl (by rfl) ?_; refine pt_q (v := ?_) rfl (by rfl) ?_ ?_; rotate_left
  · intro w' hBw'
    have qL0 := hBw'.cell c0 (by have := HBL2.out; omega); have qL1 := hBw'.cell c1 (by have := HBL2.out; omega); have qL2 := hBw'.cell c2 (by have := HBL2.out; omega); have qL3 := hBw'.cell c3 (by have := HBL2.out; omega); have qL4 := hBw'.cell c4 (by have := HBL2.out; omega)
    first | (go_simp; done) | (go_simp; with_reducible rfl)
  try simp only [zq]
  refine zt rfl (by rfl) ?_; refine zt rfl (by rfl) ?_; refine pt_q (v := ?_) rfl (by rfl) ?_ ?_; rotate_left
  · intro w' hBw'
    have qL0 := hBw'.cell d0 (by have := HBL2.out; omega); have qL1 := hBw'.cell d1 (by have := HBL2.out; omega); have qL2 := hBw'.cell d2 (by have := HBL2.out; omega); have qL3 := hBw'.cell d3 (by have := HBL2.out; omega); have qL4 := hBw'.cell d4 (by have := HBL2.out; omega)
    first | (go_simp; done) | (go_simp; with_reducible rfl)
  try simp only [zq]
  refine zt rfl (by rfl) ?_; refine zt rfl (by rfl) ?_; refine pt_q (v := ?_) rfl (by rfl) ?_ ?_; rotate_left
  · intro w' hBw'
    have qL0 := hBw'.cell e0 (by have := HBL.out; omega); have qL1 := hBw'.cell e1 (by have := HBL.out; omega); have qL2 := hBw'.cell e2 (by have := HBL.out; omega); have qL3 := hBw'.cell e3 (by have := HBL.out; omega); have qL4 := hBw'.cell e4 (by have := HBL.out; omega)
    first | (go_simp; done) | (go_simp; with_reducible rfl)
  try simp only [zq]
  clear c0 c1 c2 c3 c4 d0 d1 d2 d3 d4 e0 e1 e2 e3 e4
  refine zc fun K hK => ?_
  go_simp; have hu := prUpTo_c (fun j => j < w.heap.size) t0 ⟨k20, m20, .slice ba20 bn20 bc20, s20, .slice la20 ln20 lc20⟩ 4611686018427387903 Wd (HE20.out.up HDa.out); rw [HN20.out] at hu; by_cases hc20 : t0.k = 1 ∧ (m20 : Int) ≤ ((4611686018427387903 : Nat) : Int); rotate_left
  · have HNO := Lib.hid (show Prm.readPr x = none from rdNo HAT.out (fun h => hc20 (by have h2 := h.2.2.2.2.1.2; rw [HL2.out] at h2; have h3 := two_at h2; rw [HN20.out, HN21.out] at h3; exact ⟨h3.1, by omega⟩)))
    rw [GvE_no hc20] at hu; refine hu.mono ?_; rintro en w11 ⟨hb, rfl⟩; exact (And.intro rfl (rd_no HNO.out (below_up HDa.out hb)))
  rw [GvE_yes hc20] at hu; refine hu.mono ?_; rintro en w11 ⟨hb, rfl⟩; clear hu; refine hK.out _ _ (But.of_below hb) ?_; clear hK K
  try simp only [zq]
  have HDb := Lib.hid (below_up HDa.out hb); have HZb := Lib.hid (HZa.out.below hb); clear hb; refine zt rfl (by rfl) ?_
  refine zc fun K hK => ?_
  go_simp; have hu := prUpTo_c (fun j => j < w.heap.size) t1 ⟨k21, m21, .slice ba21 bn21 bc21, s21, .slice la21 ln21 lc21⟩ 4294967295 w11 (HE21.out.up HDb.out); rw [HN21.out] at hu; by_cases hc21 : t1.k = 1 ∧ (m21 : Int) ≤ ((4294967295 : Nat) : Int); rotate_left
  · have HNO := Lib.hid (show Prm.readPr x = none from rdNo HAT.out (fun h => hc21 (by have h2 := h.2.2.2.2.1.2; rw [HL2.out] at h2; have h3 := two_at h2; rw [HN20.out, HN21.out] at h3; exact ⟨h3.2.2.1, by omega⟩)))
    rw [GvE_no hc21] at hu; refine hu.mono ?_; rintro en w12 ⟨hb, rfl⟩; exact (And.intro rfl (rd_no HNO.out (below_up HDb.out hb)))
  rw [GvE_yes hc21] at hu; refine hu.mono ?_; rintro en w12 ⟨hb, rfl⟩; clear hu; refine hK.out _ _ (But.of_below hb) ?_; clear hK K
  try simp only [zq]
  have hw1 : IntKind.u32.wrap (m21 : Int) = m21 := by rw [IntKind.wrap_u32]; omega
  have HDc := Lib.hid (below_up HDb.out hb); have HZc := Lib.hid (HZb.out.below hb); clear hb; refine zt rfl (by rfl) ?_
  refine zc fun K hK => ?_
  go_simp; have hu := prUpTo_c (fun j => j < w.heap.size) a7 ⟨k17, m7, .slice ba17 bn17 bc17, s17, .slice la17 ln17 lc17⟩ 4611686018427387903 w12 (HE7.out.up HDc.out); rw [HN7.out] at hu; by_cases hc17 : a7.k = 1 ∧ (m7 : Int) ≤ ((4611686018427387903 : Nat) : Int); rotate_left
  · have HNO := Lib.hid (show Prm.readPr x = none from rdNo HAT.out (fun h => hc17 ⟨h.2.2.2.2.2.1.1, by have := h.2.2.2.2.2.1.2; rw [HN7.out] at this; omega⟩))
    rw [GvE_no hc17] at hu; refine hu.mono ?_; rintro en w13 ⟨hb, rfl⟩; exact (And.intro rfl (rd_no HNO.out (below_up HDc.out hb)))
  rw [GvE_yes hc17] at hu; refine hu.mono ?_; rintro en w13 ⟨hb, rfl⟩; clear hu; refine hK.out _ _ (But.of_below hb) ?_; clear hK K
  try simp only [zq]
  have D13 := below_up HDc.out hb; have Z13 := HZc.out.below hb; clear hb; have z8 := Z13.cell (i := 8) (v := .int .u64 0) rfl; have f8 := Z13.fz 8
  refine zc fun K hK => ?_
  go_simp; refine hK.out _ _ (But.setCell (O := fun j => j = w.heap.size + 1) _ _ _ (.inl rfl)) ?_; clear hK K
  try simp only [zq]
  have Z13a := Z13.set 8 (.int .u64 m20); clear z8 f8; have z9 := Z13a.cell (i := 9) (v := .int .u32 0) rfl; have f9 := Z13a.fz 9; refine zt rfl (by rfl) ?_
  refine zc fun K hK => ?_
  go_simp; refine hK.out _ _ (But.setCell (O := fun j => j = w.heap.size + 1) _ _ _ (.inl rfl)) ?_; clear hK K
  try simp only [zq]
  have Z13b := Z13a.set 9 (.int .u32 m21); clear z9 f9; have z10 := Z13b.cell (i := 10) (v := .int .u64 0) rfl; have f10 := Z13b.fz 10; refine zt rfl (by rfl) ?_
  refine zc fun K hK => ?_
  go_simp; refine hK.out _ _ (But.setCell (O := fun j => j = w.heap.size + 1) _ _ _ (.inl rfl)) ?_; clear hK K
  try simp only [zq]
  refine pt_done ?_; clear z10 f10; have Z14 := Z13b.set 10 (.int .u64 m7); have hB14 : But (fun j => j = w.heap.size + 1) w13 (((w13.setCell ⟨w.heap.size + 1, 8, none⟩ (.int .u64 m20)).setCell ⟨w.heap.size + 1, 9, none⟩ (.int .u32 m21)).setCell ⟨w.heap.size + 1, 10, none⟩ (.int .u64 m7)) := (((But.setCell (O := fun j => j = w.heap.size + 1) _ _ _ (.inl rfl)).trans (But.setCell (O := fun j => j = w.heap.size + 1) _ _ _ (.inl rfl))).trans (But.setCell (O := fun j => j = w.heap.size + 1) _ _ _ (.inl rfl))); have D14 := D13.trans (hB14.below (fun j e => by omega) D13.size); obtain ⟨w14, hw14⟩ : ∃ w14, w14 = (((w13.setCell ⟨w.heap.size + 1, 8, none⟩ (.int .u64 m20)).setCell ⟨w.heap.size + 1, 9, none⟩ (.int .u32 m21)).setCell ⟨w.heap.size + 1, 10, none⟩ (.int .u64 m7)) := ⟨_, rfl⟩; rw [← hw14] at Z14 D14 ⊢; have HZ14 := Lib.hid (show RowAt w14 (w.heap.size + 1) (prC (⟨m1, (m2 : Int), A3, B3, A4, B4, A5, B5, m20, m21, m7⟩ : Prm.Pr)).toArray 28 from Z14)
  have HD14 := Lib.hid D14; have HOKP := Lib.hid (show (⟨m1, (m2 : Int), A3, B3, A4, B4, A5, B5, m20, m21, m7⟩ : Prm.Pr).Ok from ⟨by have := HC1.out.2; show m1 < _; omega, by show _ ≤ (m2 : Int); omega, by have := HC2.out.2; show (m2 : Int) ≤ _; omega, by rw [← HA3.out]; exact ofA_lt _, by rw [← HB3.out]; exact ofB_lt _, by rw [← HA4.out]; exact ofA_lt _, by rw [← HB4.out]; exact ofB_lt _, by rw [← HA5.out]; exact ofA_lt _, by rw [← HB5.out]; exact ofB_lt _, by show m20 < _; omega, by show m21 < _; omega, by show m7 < _; omega⟩); have HMK := Lib.hid (show Prm.mkPr a1 a2 a3 a4 a5 a6 a7 = (⟨m1, (m2 : Int), A3, B3, A4, B4, A5, B5, m20, m21, m7⟩ : Prm.Pr) by unfold Prm.mkPr; rw [HN1.out, HN2.out, HN7.out, HA3.out, HB3.out, HA4.out, HB4.out, HA5.out, HB5.out, HL2.out]; simp [Prm.twoT, Prm.twoS, HN20.out, HN21.out]); have HC20 := Lib.hid hc20; have HC21 := Lib.hid hc21; have HC17 := Lib.hid hc17
  have HTW := Lib.hid (show Prm.twoB a6.l = true by rw [HL2.out]; exact two_mk ⟨hc20.1, by rw [HN20.out]; have := hc20.2; omega, hc21.1, by rw [HN21.out]; have := hc21.2; omega⟩); clear Z14 D14 hB14 hw14 Z13a Z13b Z13 D13 hw1 hc20 hc21 hc17; have z0 := HZ14.out.cell (i := 0) (v := .int .u32 m1) rfl; have z1 := HZ14.out.cell (i := 1) (v := .int .i64 m2) rfl; have z2 := HZ14.out.cell (i := 2) (v := .int .u32 A3) rfl; have z3 := HZ14.out.cell (i := 3) (v := .int .u32 B3) rfl; have z4 := HZ14.out.cell (i := 4) (v := .int .u32 A4) rfl; have z5 := HZ14.out.cell (i := 5) (v := .int .u32 B4) rfl; have z6 := HZ14.out.cell (i := 6) (v := .int .u32 A5) rfl; have z7 := HZ14.out.cell (i := 7) (v := .int .u32 B5) rfl; have z8 := HZ14.out.cell (i := 8) (v := .int .u64 m20) rfl; have z9 := HZ14.out.cell (i := 9) (v := .int .u32 m21) rfl; have z10 := HZ14.out.cell (i := 10) (v := .int .u64 m7) rfl; have hck := prCheck_c (⟨m1, (m2 : Int), A3, B3, A4, B4, A5, B5, m20, m21, m7⟩ : Prm.Pr) HOKP.out w14
  by_cases ho : Prm.okPr (⟨m1, (m2 : Int), A3, B3, A4, B4, A5, B5, m20, m21, m7⟩ : Prm.Pr) = true; rotate_left
  · have HNO := Lib.hid (show Prm.readPr x = none from rdNo HAT.out (fun h => ho (by have h2 := h.2.2.2.2.2.2.1; rw [HMK.out] at h2; exact h2)))
    rw [show Prm.okPr (⟨m1, (m2 : Int), A3, B3, A4, B4, A5, B5, m20, m21, m7⟩ : Prm.Pr) = false by simpa using ho] at hck
    go_wp2_with (first
      | (go_at_call 23; refine hck.mono ?_; rintro en w15 ⟨rfl, hb⟩)
      | (go_at_call 42; with_reducible refine (prMust_no _ _).mono ?_; rintro en wn ⟨rfl, rfl⟩))
    exact (And.intro rfl (rd_no HNO.out (below_up HD14.out hb)))
  rw [ho] at hck; have HO := Lib.hid ho; clear ho; have hck1 := hck
  go_wp2_with (first
    | (go_at_call 23; refine hck.mono ?_; rintro en w15 ⟨rfl, hb⟩; have Z15 := HZ14.out.below hb; have y1 := Z15.cell (i := 1) (v := .int .i64 (m2 : Int)) rfl)
    | (go_at_call 42; with_reducible refine (prMust_yes _ _).mono ?_; rintro en wn ⟨rfl, rfl⟩))
  have D15 := below_up HD14.out hb; have HZ15 := Lib.hid Z15; have HD15 := Lib.hid D15
  have hm2 : m2 = 0 ∨ m2 = 1 ∨ m2 = 2 := by have := HC2.out.2; omega
  have hll8 : ln0 = 8 + rs.length := by have h := HLL.out; rw [HL.out] at h; simp at h; omega
  have HLR := Lib.hid hll8; clear hck hck1 Z15 D15 hb y1 hll8 z0 z1 z2 z3 z4 z5 z6 z7 z8 z9 z10; rcases hm2 with rfl | rfl | rfl
  · refine (show Calls Tryz.prog 50 #[.int .i64 0] w15 (Ret (.tuple #[.int .i64 0, .int .i64 0]) w15) from suwidth_c 0 (by decide) w15).mono ?_
    rintro en w16 ⟨rfl, hb⟩; have D16 := below_up HD15.out hb; have Z16 := HZ15.out.below hb; have HZ16 := Lib.hid Z16; have HD16 := Lib.hid D16; clear hb Z16 D16; by_cases h9 : ln0 = 8; rotate_left
    · have HNO := Lib.hid (show Prm.readPr x = none from rdNo HAT.out (fun h => h9 (by have h2 := h.2.2.2.2.2.2.2; rw [HN2.out] at h2; rw [HLR.out, last0 (k := 0) h2])))
      have hd : ((ln0 : Int) == 8 + min 1 0) = false := by rw [beq_eq_false_iff_ne]; omega
      go_wp2_with (first
        | (go_at_call 42; with_reducible refine (prMust_no _ _).mono ?_; rintro en wn ⟨rfl, rfl⟩))
      exact (And.intro rfl (rd_no HNO.out HD16.out))
    subst h9; have HYES := (show Prm.readPr x = some (⟨m1, ((0 : Nat) : Int), A3, B3, A4, B4, A5, B5, m20, m21, m7⟩ : Prm.Pr) from by rw [rdYes HAT.out ⟨HC0.out, ⟨HC1.out.1, by rw [HN1.out]; have := HC1.out.2; omega⟩, ⟨HC2.out.1, by rw [HN2.out]; have := HC2.out.2; omega⟩, HC345.out, ⟨HC6.out, HTW.out⟩, ⟨HC17.out.1, by rw [HN7.out]; have := HC17.out.2; omega⟩, by rw [HMK.out]; exact HO.out, by rw [HN2.out]; exact last0_of (by have := HLR.out; omega)⟩, HMK.out]); have z0 := HZ16.out.cell (i := 0) (v := .int .u32 m1) rfl; have z1 := HZ16.out.cell (i := 1) (v := .int .i64 0) rfl; have z2 := HZ16.out.cell (i := 2) (v := .int .u32 A3) rfl; have z3 := HZ16.out.cell (i := 3) (v := .int .u32 B3) rfl; have z4 := HZ16.out.cell (i := 4) (v := .int .u32 A4) rfl; have z5 := HZ16.out.cell (i := 5) (v := .int .u32 B4) rfl; have z6 := HZ16.out.cell (i := 6) (v := .int .u32 A5) rfl; have z7 := HZ16.out.cell (i := 7) (v := .int .u32 B5) rfl
    have z8 := HZ16.out.cell (i := 8) (v := .int .u64 m20) rfl; have z9 := HZ16.out.cell (i := 9) (v := .int .u32 m21) rfl; have z10 := HZ16.out.cell (i := 10) (v := .int .u64 m7) rfl; have f0 := HZ16.out.fz 0; have f1 := HZ16.out.fz 1; have f2 := HZ16.out.fz 2; have f3 := HZ16.out.fz 3; have f4 := HZ16.out.fz 4; have f5 := HZ16.out.fz 5; have f6 := HZ16.out.fz 6; have f7 := HZ16.out.fz 7; have f8 := HZ16.out.fz 8; have f9 := HZ16.out.fz 9; have f10 := HZ16.out.fz 10
    go_wp2_with (first
      | (go_at_call 42; rw [show ((8 : Int) == 8 + min 1 0) = true by decide]; with_reducible refine (prMust_yes _ _).mono ?_; rintro en wn ⟨rfl, rfl⟩))
    rw [row11_same (show RowAt _ (w.heap.size + 1) #[.int .u32 m1, .int .i64 0, .int .u32 A3, .int .u32 B3, .int .u32 A4, .int .u32 B4, .int .u32 A5, .int .u32 B5, .int .u64 m20, .int .u32 m21, .int .u64 m7] 28 from HZ16.out)]; refine bodyPost_ret (v := prV (⟨m1, ((0 : Nat) : Int), A3, B3, A4, B4, A5, B5, m20, m21, m7⟩ : Prm.Pr)) ?_ rfl ?_
    · simp [results, Tryz.results60, go_sem, z0, z1, z2, z3, z4, z5, z6, z7, z8, z9, z10]
    exact rd_yes HYES HD16.out
  · refine (show Calls Tryz.prog 50 #[.int .i64 1] w15 (Ret (.tuple #[.int .i64 2, .int .i64 0]) w15) from suwidth_c 1 (by decide) w15).mono ?_
    rintro en w16 ⟨rfl, hb⟩; have D16 := below_up HD15.out hb; have Z16 := HZ15.out.below hb; have HZ16 := Lib.hid Z16; have HD16 := Lib.hid D16; clear hb Z16 D16; by_cases h9 : ln0 = 9; rotate_left
    · have HNO := Lib.hid (show Prm.readPr x = none from rdNo HAT.out (fun h => h9 (by have h2 := h.2.2.2.2.2.2.2; rw [HN2.out] at h2; rw [HLR.out, last1 (k := 1) (by decide) h2])))
      have hd : ((ln0 : Int) == 8 + min 1 2) = false := by rw [beq_eq_false_iff_ne]; omega
      go_wp2_with (first
        | (go_at_call 42; with_reducible refine (prMust_no _ _).mono ?_; rintro en wn ⟨rfl, rfl⟩))
      exact (And.intro rfl (rd_no HNO.out HD16.out))
    subst h9; obtain ⟨a8, rfl⟩ := one_of (show rs.length = 1 by have := HLR.out; omega); have hq8 := HQ.out; simp only [ItsR] at hq8; obtain ⟨r8, _, rfl, e8, rfl⟩ := hq8; obtain ⟨k18, n18, ba18, bn18, bc18, s18, la18, ln18, lc18, rfl⟩ := e8.shape; obtain ⟨b8, off8, hbb, hr8⟩ := HL5.out.rec_at (cells := rwC) (sz := 5) (fun _ => rfl) (k := 8) (by omega) (by simp); cases hbb; simp only [List.getElem_cons_succ, List.getElem_cons_zero] at hr8; have HR18 := Lib.hid hr8; have HE18 := Lib.hid e8; clear hr8; obtain ⟨q8, Q8⟩ := e8.parts; have HB8 := Lib.hid (show bn18 = a8.b.length by obtain ⟨a, c, h⟩ := Q8.b.1.len; simp at h; omega); clear Q8 q8 e8; have hu := prAs_c (fun j => j < w.heap.size) a8 ⟨k18, n18, .slice ba18 bn18 bc18, s18, .slice la18 ln18 lc18⟩ 2 w16 (HE18.out.up HD16.out); have hrc := rangeAt_up HD16.out HR18.out; have c0 := hrc 0 _ rfl; have c1 := hrc 1 _ rfl; have c2 := hrc 2 _ rfl
    have c3 := hrc 3 _ rfl; have c4 := hrc 4 _ rfl; clear hrc; simp only [Nat.reduceMul, Nat.add_assoc, Nat.reduceAdd, Nat.zero_mul, Nat.add_zero, Nat.zero_add] at c0 c1 c2 c3 c4
    go_wp2_with (first
      | (go_at_call 42; rw [show ((9 : Int) == 8 + min 1 2) = true by decide]; with_reducible refine (prMust_yes _ _).mono ?_; rintro en wn ⟨rfl, rfl⟩))
    clear c0 c1 c2 c3 c4; by_cases hc8 : a8.k = 2; rotate_left
    · have HNO := Lib.hid (show Prm.readPr x = none from rdNo HAT.out (fun h => hc8 (by have h2 := h.2.2.2.2.2.2.2; rw [HN2.out] at h2; exact (lastk (k := 1) h2).1)))
      rw [GvE_no hc8] at hu; refine hu.mono ?_; rintro en w17 ⟨hb, rfl⟩; go_wp2; exact (And.intro rfl (rd_no HNO.out (below_up HD16.out hb)))
    rw [GvE_yes hc8] at hu; have hu2 : Calls Tryz.prog 99 #[rwV ⟨k18, n18, .slice ba18 bn18 bc18, s18, .slice la18 ln18 lc18⟩, .int .i64 2] w16 (fun en w' => Below w16.heap.size w16 w' ∧ en = .returned (.agg #[.int .i64 k18, .int .u64 n18, .slice ba18 bn18 bc18, .string s18, .slice la18 ln18 lc18])) := hu; refine hu2.mono ?_; rintro en w17 ⟨hb, rfl⟩; clear hu hu2; have HD17 := Lib.hid (below_up HD16.out hb); have HZ17 := Lib.hid (HZ16.out.below hb); clear hb
    have hf2 := fun (a : Int) (b : Int) (c e : Value) (d : ByteArray) => prField2 (.int .i64 a) (.int .u64 b) c (.string d) e
    by_cases hb8 : bn18 = 2; rotate_left
    · have HNO := Lib.hid (show Prm.readPr x = none from rdNo HAT.out (fun h => hb8 (by have h2 := h.2.2.2.2.2.2.2; rw [HN2.out] at h2; rw [HB8.out]; exact (lastk (k := 1) h2).2)))
      have hd : ((bn18 : Int) == 2) = false := by rw [beq_eq_false_iff_ne]; omega
      go_wp2_with (first
        | (go_at_call 42; with_reducible refine (prMust_no _ _).mono ?_; rintro en wn ⟨rfl, rfl⟩))
      exact (And.intro rfl (rd_no HNO.out HD17.out))
    have HYES := (show Prm.readPr x = some (⟨m1, ((1 : Nat) : Int), A3, B3, A4, B4, A5, B5, m20, m21, m7⟩ : Prm.Pr) from by rw [rdYes HAT.out ⟨HC0.out, ⟨HC1.out.1, by rw [HN1.out]; have := HC1.out.2; omega⟩, ⟨HC2.out.1, by rw [HN2.out]; have := HC2.out.2; omega⟩, HC345.out, ⟨HC6.out, HTW.out⟩, ⟨HC17.out.1, by rw [HN7.out]; have := HC17.out.2; omega⟩, by rw [HMK.out]; exact HO.out, by rw [HN2.out]; exact lastk_of (by decide) hc8 (by rw [← HB8.out, hb8]; rfl)⟩, HMK.out]); subst hb8; clear hc8; have z0 := HZ17.out.cell (i := 0) (v := .int .u32 m1) rfl; have z1 := HZ17.out.cell (i := 1) (v := .int .i64 1) rfl; have z2 := HZ17.out.cell (i := 2) (v := .int .u32 A3) rfl; have z3 := HZ17.out.cell (i := 3) (v := .int .u32 B3) rfl; have z4 := HZ17.out.cell (i := 4) (v := .int .u32 A4) rfl; have z5 := HZ17.out.cell (i := 5) (v := .int .u32 B4) rfl; have z6 := HZ17.out.cell (i := 6) (v := .int .u32 A5) rfl
    have z7 := HZ17.out.cell (i := 7) (v := .int .u32 B5) rfl; have z8 := HZ17.out.cell (i := 8) (v := .int .u64 m20) rfl; have z9 := HZ17.out.cell (i := 9) (v := .int .u32 m21) rfl; have z10 := HZ17.out.cell (i := 10) (v := .int .u64 m7) rfl; have f0 := HZ17.out.fz 0; have f1 := HZ17.out.fz 1; have f2 := HZ17.out.fz 2; have f3 := HZ17.out.fz 3; have f4 := HZ17.out.fz 4; have f5 := HZ17.out.fz 5; have f6 := HZ17.out.fz 6; have f7 := HZ17.out.fz 7; have f8 := HZ17.out.fz 8; have f9 := HZ17.out.fz 9; have f10 := HZ17.out.fz 10
    go_wp2_with (first
      | (go_at_call 42; with_reducible refine (prMust_yes _ _).mono ?_; rintro en wn ⟨rfl, rfl⟩))
    rw [row11_same (show RowAt _ (w.heap.size + 1) #[.int .u32 m1, .int .i64 1, .int .u32 A3, .int .u32 B3, .int .u32 A4, .int .u32 B4, .int .u32 A5, .int .u32 B5, .int .u64 m20, .int .u32 m21, .int .u64 m7] 28 from HZ17.out)]; refine bodyPost_ret (v := prV (⟨m1, ((1 : Nat) : Int), A3, B3, A4, B4, A5, B5, m20, m21, m7⟩ : Prm.Pr)) ?_ rfl ?_
    · simp [results, Tryz.results60, go_sem, z0, z1, z2, z3, z4, z5, z6, z7, z8, z9, z10]
    exact rd_yes HYES HD17.out
  · refine (show Calls Tryz.prog 50 #[.int .i64 2] w15 (Ret (.tuple #[.int .i64 4, .int .i64 0]) w15) from suwidth_c 2 (by decide) w15).mono ?_
    rintro en w16 ⟨rfl, hb⟩; have D16 := below_up HD15.out hb; have Z16 := HZ15.out.below hb; have HZ16 := Lib.hid Z16; have HD16 := Lib.hid D16; clear hb Z16 D16; by_cases h9 : ln0 = 9; rotate_left
    · have HNO := Lib.hid (show Prm.readPr x = none from rdNo HAT.out (fun h => h9 (by have h2 := h.2.2.2.2.2.2.2; rw [HN2.out] at h2; rw [HLR.out, last1 (k := 2) (by decide) h2])))
      have hd : ((ln0 : Int) == 8 + min 1 4) = false := by rw [beq_eq_false_iff_ne]; omega
      go_wp2_with (first
        | (go_at_call 42; with_reducible refine (prMust_no _ _).mono ?_; rintro en wn ⟨rfl, rfl⟩))
      exact (And.intro rfl (rd_no HNO.out HD16.out))
    subst h9; obtain ⟨a8, rfl⟩ := one_of (show rs.length = 1 by have := HLR.out; omega); have hq8 := HQ.out; simp only [ItsR] at hq8; obtain ⟨r8, _, rfl, e8, rfl⟩ := hq8; obtain ⟨k18, n18, ba18, bn18, bc18, s18, la18, ln18, lc18, rfl⟩ := e8.shape; obtain ⟨b8, off8, hbb, hr8⟩ := HL5.out.rec_at (cells := rwC) (sz := 5) (fun _ => rfl) (k := 8) (by omega) (by simp); cases hbb; simp only [List.getElem_cons_succ, List.getElem_cons_zero] at hr8; have HR18 := Lib.hid hr8; have HE18 := Lib.hid e8; clear hr8; obtain ⟨q8, Q8⟩ := e8.parts; have HB8 := Lib.hid (show bn18 = a8.b.length by obtain ⟨a, c, h⟩ := Q8.b.1.len; simp at h; omega); clear Q8 q8 e8; have hu := prAs_c (fun j => j < w.heap.size) a8 ⟨k18, n18, .slice ba18 bn18 bc18, s18, .slice la18 ln18 lc18⟩ 2 w16 (HE18.out.up HD16.out); have hrc := rangeAt_up HD16.out HR18.out; have c0 := hrc 0 _ rfl; have c1 := hrc 1 _ rfl; have c2 := hrc 2 _ rfl
    have c3 := hrc 3 _ rfl; have c4 := hrc 4 _ rfl; clear hrc; simp only [Nat.reduceMul, Nat.add_assoc, Nat.reduceAdd, Nat.zero_mul, Nat.add_zero, Nat.zero_add] at c0 c1 c2 c3 c4
    go_wp2_with (first
      | (go_at_call 42; rw [show ((9 : Int) == 8 + min 1 4) = true by decide]; with_reducible refine (prMust_yes _ _).mono ?_; rintro en wn ⟨rfl, rfl⟩))
    clear c0 c1 c2 c3 c4; by_cases hc8 : a8.k = 2; rotate_left
    · have HNO := Lib.hid (show Prm.readPr x = none from rdNo HAT.out (fun h => hc8 (by have h2 := h.2.2.2.2.2.2.2; rw [HN2.out] at h2; exact (lastk (k := 2) h2).1)))
      rw [GvE_no hc8] at hu; refine hu.mono ?_; rintro en w17 ⟨hb, rfl⟩; go_wp2; exact (And.intro rfl (rd_no HNO.out (below_up HD16.out hb)))
    rw [GvE_yes hc8] at hu; have hu2 : Calls Tryz.prog 99 #[rwV ⟨k18, n18, .slice ba18 bn18 bc18, s18, .slice la18 ln18 lc18⟩, .int .i64 2] w16 (fun en w' => Below w16.heap.size w16 w' ∧ en = .returned (.agg #[.int .i64 k18, .int .u64 n18, .slice ba18 bn18 bc18, .string s18, .slice la18 ln18 lc18])) := hu; refine hu2.mono ?_; rintro en w17 ⟨hb, rfl⟩; clear hu hu2; have HD17 := Lib.hid (below_up HD16.out hb); have HZ17 := Lib.hid (HZ16.out.below hb); clear hb
    have hf2 := fun (a : Int) (b : Int) (c e : Value) (d : ByteArray) => prField2 (.int .i64 a) (.int .u64 b) c (.string d) e
    by_cases hb8 : bn18 = 4; rotate_left
    · have HNO := Lib.hid (show Prm.readPr x = none from rdNo HAT.out (fun h => hb8 (by have h2 := h.2.2.2.2.2.2.2; rw [HN2.out] at h2; rw [HB8.out]; exact (lastk (k := 2) h2).2)))
      have hd : ((bn18 : Int) == 4) = false := by rw [beq_eq_false_iff_ne]; omega
      go_wp2_with (first
        | (go_at_call 42; with_reducible refine (prMust_no _ _).mono ?_; rintro en wn ⟨rfl, rfl⟩))
      exact (And.intro rfl (rd_no HNO.out HD17.out))
    have HYES := (show Prm.readPr x = some (⟨m1, ((2 : Nat) : Int), A3, B3, A4, B4, A5, B5, m20, m21, m7⟩ : Prm.Pr) from by rw [rdYes HAT.out ⟨HC0.out, ⟨HC1.out.1, by rw [HN1.out]; have := HC1.out.2; omega⟩, ⟨HC2.out.1, by rw [HN2.out]; have := HC2.out.2; omega⟩, HC345.out, ⟨HC6.out, HTW.out⟩, ⟨HC17.out.1, by rw [HN7.out]; have := HC17.out.2; omega⟩, by rw [HMK.out]; exact HO.out, by rw [HN2.out]; exact lastk_of (by decide) hc8 (by rw [← HB8.out, hb8]; rfl)⟩, HMK.out]); subst hb8; clear hc8; have z0 := HZ17.out.cell (i := 0) (v := .int .u32 m1) rfl; have z1 := HZ17.out.cell (i := 1) (v := .int .i64 2) rfl; have z2 := HZ17.out.cell (i := 2) (v := .int .u32 A3) rfl; have z3 := HZ17.out.cell (i := 3) (v := .int .u32 B3) rfl; have z4 := HZ17.out.cell (i := 4) (v := .int .u32 A4) rfl; have z5 := HZ17.out.cell (i := 5) (v := .int .u32 B4) rfl; have z6 := HZ17.out.cell (i := 6) (v := .int .u32 A5) rfl
    have z7 := HZ17.out.cell (i := 7) (v := .int .u32 B5) rfl; have z8 := HZ17.out.cell (i := 8) (v := .int .u64 m20) rfl; have z9 := HZ17.out.cell (i := 9) (v := .int .u32 m21) rfl; have z10 := HZ17.out.cell (i := 10) (v := .int .u64 m7) rfl; have f0 := HZ17.out.fz 0; have f1 := HZ17.out.fz 1; have f2 := HZ17.out.fz 2; have f3 := HZ17.out.fz 3; have f4 := HZ17.out.fz 4; have f5 := HZ17.out.fz 5; have f6 := HZ17.out.fz 6; have f7 := HZ17.out.fz 7; have f8 := HZ17.out.fz 8; have f9 := HZ17.out.fz 9; have f10 := HZ17.out.fz 10
    go_wp2_with (first
      | (go_at_call 42; with_reducible refine (prMust_yes _ _).mono ?_; rintro en wn ⟨rfl, rfl⟩))
    rw [row11_same (show RowAt _ (w.heap.size + 1) #[.int .u32 m1, .int .i64 2, .int .u32 A3, .int .u32 B3, .int .u32 A4, .int .u32 B4, .int .u32 A5, .int .u32 B5, .int .u64 m20, .int .u32 m21, .int .u64 m7] 28 from HZ17.out)]; refine bodyPost_ret (v := prV (⟨m1, ((2 : Nat) : Int), A3, B3, A4, B4, A5, B5, m20, m21, m7⟩ : Prm.Pr)) ?_ rfl ?_
    · simp [results, Tryz.results60, go_sem, z0, z1, z2, z3, z4, z5, z6, z7, z8, z9, z10]
    exact rd_yes HYES HD17.out
end Go.Proofs.YtpkonagjnfphkaaGreatDoor
