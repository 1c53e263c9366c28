/-
  PrZ, PrA, PrM, PrN, PrK: several texts in one (bundle.py).
-/
import Derived.Test.YtpkonagjnfphkaaGreatDoorPmY18
import Derived.Test.YtpkonagjnfphkaaGreatDoorPmY16
import Derived.Test.YtpkonagjnfphkaaGreatDoorPmY22
import Derived.Test.YtpkonagjnfphkaaGreatDoorPmY23
import Derived.Test.YtpkonagjnfphkaaGreatDoorPmY02
import Derived.WalkLawsBesides
import Derived.Defers
import Derived.Recover
import Derived.Lib.Hide
import Derived.Test.YtpkonagjnfphkaaGreatDoorPmY21
import Derived.Test.YtpkonagjnfphkaaGreatDoorPmY01
set_option linter.unusedSimpArgs false
set_option linter.unusedVariables false
set_option maxRecDepth 100000
set_option maxHeartbeats 1000000
namespace Go.Proofs.YtpkonagjnfphkaaGreatDoor
open Go.RowKit Trc
namespace Prm
structure Pr where
  flags : Nat
  sum : Int
  toN : Nat
  toS : Nat
  srN : Nat
  srS : Nat
  rpN : Nat
  rpS : Nat
  time : Nat
  seq : Nat
  life : Nat
structure Pr.Ok (p : Pr) : Prop where
  f : p.flags < 4294967296
  s0 : -9223372036854775808 ≤ p.sum
  s1 : p.sum ≤ 9223372036854775807
  tn : p.toN < 4294967296
  ts : p.toS < 4294967296
  sn : p.srN < 4294967296
  ss : p.srS < 4294967296
  rn : p.rpN < 4294967296
  rs : p.rpS < 4294967296
  t : p.time < 18446744073709551616
  q : p.seq < 4294967296
  l : p.life < 18446744073709551616
def flagsB (f : Nat) : Bool := decide (f ≤ 418 ∧ (f % 128 = 0 ∨ f % 128 = 2 ∨ f % 128 = 32 ∨ f % 128 = 34) ∧ f / 128 ≤ 2)
theorem flags_small : ∀ f, f < 419 → (decide (f &&& 418 = f ∧ f / 128 ≤ 2)) = flagsB f := by decide
theorem flags_eq (f : Nat) : (decide (f &&& 418 = f ∧ f / 128 ≤ 2)) = flagsB f := by
  by_cases h : f < 419
  · exact flags_small f h
  · have h1 : f &&& 418 ≤ 418 := Nat.and_le_right
    unfold flagsB; rw [decide_eq_false (by omega), decide_eq_false (by omega)]
def okPr (p : Pr) : Bool := flagsB p.flags && (decide (0 ≤ p.sum ∧ p.sum ≤ 2) && (decide (p.toN ≠ 0 ∧ p.srN ≠ 0) && (decide (Dig.chkP p.rpN p.rpS = 0) && decide (p.time ≤ 4611686018427387903 ∧ p.life ≤ 4611686018427387903))))
theorem okPr_parts {p : Pr} (h : okPr p = true) : flagsB p.flags = true ∧ (0 ≤ p.sum ∧ p.sum ≤ 2) ∧ (p.toN ≠ 0 ∧ p.srN ≠ 0) ∧ Dig.chkP p.rpN p.rpS = 0 ∧ p.time ≤ 4611686018427387903 ∧ p.life ≤ 4611686018427387903 := by
  unfold okPr at h; simp only [Bool.and_eq_true, decide_eq_true_eq] at h; exact h
theorem chkP_pos {n m : Nat} (h : n ≠ 0) : Dig.chkP n m = 0 := by unfold Dig.chkP; rw [if_neg (fun e => h e.1)]
end Prm
end Go.Proofs.YtpkonagjnfphkaaGreatDoor
namespace Go.Proofs.YtpkonagjnfphkaaGreatDoor
open Go.RowKit Trc Cb
namespace Prm
abbrev bI (b : List UInt8) : It := .mk 2 0 b ⟨#[]⟩ []
def prL (p : Pr) : List It := [uI 7, uI p.flags, uI p.sum.toNat, epI p.toN p.toS, epI p.srN p.srS, epI p.rpN p.rpS, lI [uI p.time, uI p.seq], uI p.life]
def zeroIt (k : Nat) (L : List It) : It := lI (L ++ [bI (List.replicate (Sum.wd k) 0)])
def sealIt (k : Nat) (L : List It) : It := if k = 0 then lI L else lI (L ++ [bI (Oct.putB (Sum.sumN k (bytesOf (zeroIt k L))) (Sum.wd k))])
def encPr (p : Pr) : List UInt8 := bytesOf (sealIt p.sum.toNat (prL p))
def twoB : List It → Bool
  | [t, s] => decide (t.k = 1 ∧ t.n ≤ 4611686018427387903 ∧ s.k = 1 ∧ s.n ≤ 4294967295)
  | _ => false
def twoT : List It → Nat
  | [t, _] => t.n.toNat
  | _ => 0
def twoS : List It → Nat
  | [_, s] => s.n.toNat
  | _ => 0
def lastB (k : Nat) : List It → Bool
  | [] => decide (k = 0)
  | [c] => decide (k ≠ 0 ∧ c.k = 2 ∧ c.b.length = Sum.wd k)
  | _ => false
def mkPr (a1 a2 a3 a4 a5 a6 a7 : It) : Pr := ⟨a1.n.toNat, a2.n, ofA a3, ofB a3, ofA a4, ofB a4, ofA a5, ofB a5, twoT a6.l, twoS a6.l, a7.n.toNat⟩
def rdB (a0 a1 a2 a3 a4 a5 a6 a7 : It) (r : List It) : Bool :=
  decide ((a0.k = 1 ∧ a0.n = 7) ∧ (a1.k = 1 ∧ a1.n ≤ 4294967295) ∧ (a2.k = 1 ∧ a2.n ≤ 2) ∧ (okE a3 = true ∧ okE a4 = true ∧ okE a5 = true) ∧ (a6.k = 4 ∧ twoB a6.l = true) ∧ (a7.k = 1 ∧ a7.n ≤ 4611686018427387903) ∧ okPr (mkPr a1 a2 a3 a4 a5 a6 a7) = true ∧ lastB a2.n.toNat r = true)
def readPr (x : It) : Option Pr := match x.l with
  | a0 :: a1 :: a2 :: a3 :: a4 :: a5 :: a6 :: a7 :: r => if x.k = 4 ∧ rdB a0 a1 a2 a3 a4 a5 a6 a7 r = true then some (mkPr a1 a2 a3 a4 a5 a6 a7) else none
  | _ => none
def decPr (b : List UInt8) : Except Int Pr := match decP b with
  | .error e => .error e
  | .ok x => match readPr x with
    | none => .error 140
    | some p => if encPr p = b then .ok p else .error 110
theorem readPr_some {x : It} {p : Pr} (h : readPr x = some p) : x.k = 4 ∧ ∃ a0 a1 a2 a3 a4 a5 a6 a7 r, x.l = a0 :: a1 :: a2 :: a3 :: a4 :: a5 :: a6 :: a7 :: r ∧ rdB a0 a1 a2 a3 a4 a5 a6 a7 r = true ∧ p = mkPr a1 a2 a3 a4 a5 a6 a7 := by
  unfold readPr at h; split at h
  · rename_i a0 a1 a2 a3 a4 a5 a6 a7 r hl
    split at h
    · rename_i hc
      exact ⟨hc.1, a0, a1, a2, a3, a4, a5, a6, a7, r, hl, hc.2, (Option.some.inj h).symm⟩
    · cases h
  · cases h
theorem readPr_short {x : It} (h : x.l.length < 8) : readPr x = none := by
  unfold readPr; split
  · rename_i hl; rw [hl] at h; simp at h; omega
  · rfl
theorem readPr_kind {x : It} (h : x.k ≠ 4) : readPr x = none := by
  unfold readPr; split
  · rw [if_neg (fun e => h e.1)]
  · rfl
theorem readPr_at {x : It} {a0 a1 a2 a3 a4 a5 a6 a7 : It} {r : List It} (h : x.l = a0 :: a1 :: a2 :: a3 :: a4 :: a5 :: a6 :: a7 :: r) (hk : x.k = 4) : readPr x = if rdB a0 a1 a2 a3 a4 a5 a6 a7 r = true then some (mkPr a1 a2 a3 a4 a5 a6 a7) else none := by
  unfold readPr; rw [h]; simp only [hk, true_and]
theorem readPr_ok {x : It} {p : Pr} (h : readPr x = some p) (hn : nOk x) : okPr p = true ∧ p.Ok := by
  obtain ⟨hk, a0, a1, a2, a3, a4, a5, a6, a7, r, hl, hr, rfl⟩ := readPr_some h; unfold rdB at hr; simp only [decide_eq_true_eq] at hr; obtain ⟨_, ⟨_, h1⟩, ⟨_, h2⟩, _, ⟨_, h6⟩, ⟨_, h7⟩, ho, _⟩ := hr
  have hm : ∀ y ∈ x.l, nOk y := fun y hy => nOkL_mem ((nOk_eq x).1 hn).2 hy
  have n2 := ((nOk_eq a2).1 (hm a2 (by rw [hl]; simp))).1; refine ⟨ho, ?_⟩
  have h6' : twoT a6.l < 18446744073709551616 ∧ twoS a6.l < 4294967296 := by
    unfold twoB at h6; split at h6
    · rename_i t s e
      simp only [decide_eq_true_eq] at h6; rw [e]; exact ⟨by show t.n.toNat < _; omega, by show s.n.toNat < _; omega⟩
    · cases h6
  exact ⟨by show a1.n.toNat < _; omega, by show _ ≤ a2.n; omega, by show a2.n ≤ _; omega, ofA_lt _, ofB_lt _, ofA_lt _, ofB_lt _, ofA_lt _, ofB_lt _, h6'.1, h6'.2, by show a7.n.toNat < _; omega⟩
end Prm
end Go.Proofs.YtpkonagjnfphkaaGreatDoor
namespace Go.Proofs.YtpkonagjnfphkaaGreatDoor
open Go.RowKit
theorem prMust_yes (e : Int) (w : World) : Calls Tryz.prog 42 #[.bool true, .int .i64 e] w fun en w' => en = .returned (.tuple #[]) ∧ w = w' := by
  go_enter Tryz.func42, Tryz.ntmps42; go_wp2
  go_end0
  exact ⟨rfl, rfl⟩
theorem prMust_no (e : Int) (w : World) : Calls Tryz.prog 42 #[.bool false, .int .i64 e] w fun en w' => en = .panicked (gup e) ∧ w = w' := by
  go_enter Tryz.func42, Tryz.ntmps42; go_wp2; exact ⟨rfl, rfl, rfl⟩
theorem prCaught_idle (p : Addr) (g : FuncId) (caps : Array Value) (w : World) :
    CallsD Tryz.prog 40 #[.pointer (some p), .func (.func g) #[] caps] .returning w fun e u' w' => e = .returned (.tuple #[]) ∧ u' = .returning ∧ w' = w := by
  refine callsD_of_wpS Tryz.func40 rfl fun c₀ cs hu => ?_
  apply wpS_seq; apply wpS_region; simp [wpOpsS, go_sem, recoverD, hu, Tryz.ntmps40, Exit.thenS, Array.replicate_succ]; refine wpS_of_wp ?_; go_wp2; cases c₀; simp_all [bodyPostS, results, Tryz.results40, Exit.thenS]
theorem prCaught_gup (p : Nat) (e e0 : Int) (g : FuncId) (caps : Array Value) (hg : Enters Tryz.prog g) (w : World) (hc : w.cell? ⟨p, 0, none⟩ = some (.int .i64 e0)) (hz : w.frozen? ⟨p, 0, none⟩ = false) {R : World → Prop}
    (hcl : Calls Tryz.prog g caps (w.setCell ⟨p, 0, none⟩ (.int .i64 e)) fun en w' => en = .returned (.tuple #[]) ∧ R w') :
    CallsD Tryz.prog 40 #[.pointer (some ⟨p, 0, none⟩), .func (.func g) #[] caps] (.panicking (gup e)) w fun en u' w' => en = .returned (.tuple #[]) ∧ u' = .panicking (gupR e) ∧ R w' := by
  refine callsD_of_wpS Tryz.func40 rfl fun c₀ cs hu => ?_
  have HC := Lib.hid hcl; clear hcl
  have hta : ∀ (e : Int) (w : World), (Instr.typeAssert (.iface 33 (.int .i64 e)) 20 33 false).run Tryz.prog w = .ok (.int .i64 e) w := fun _ _ => by kernel_rfl
  apply wpS_seq; apply wpS_region; simp [wpOpsS, go_sem, recoverD, hu, Tryz.ntmps40, Exit.thenS, Array.replicate_succ]; refine wpS_of_wp ?_; unfold Enters at hg
  go_wp2_with (refine HC.out.mono ?_; rintro en w1 ⟨rfl, hr⟩)
  cases c₀; simp_all [bodyPostS, results, Tryz.results40, Exit.thenS]
end Go.Proofs.YtpkonagjnfphkaaGreatDoor
namespace Go.Proofs.YtpkonagjnfphkaaGreatDoor
open Go.RowKit Trc Cb
def GvE (c : Prop) [Decidable c] (v : Value) (w : World) (en : Ending) (w' : World) : Prop := Below w.heap.size w w' ∧ en = if c then .returned v else .panicked (gup 140)
theorem GvE_yes {c : Prop} [Decidable c] (h : c) (v : Value) (w : World) : GvE c v w = fun en w' => Below w.heap.size w w' ∧ en = .returned v := by
  funext en w'
  show (_ ∧ _) = _; rw [if_pos h]
theorem GvE_no {c : Prop} [Decidable c] (h : ¬ c) (v : Value) (w : World) : GvE c v w = fun en w' => Below w.heap.size w w' ∧ en = .panicked (gup 140) := by
  funext en w'
  show (_ ∧ _) = _; rw [if_neg h]
theorem prAs_c (S : Nat → Prop) (x : It) (r : Rw) (k : Int) (w : World) (hr : ItR S w x r) : Calls Tryz.prog 99 #[rwV r, .int .i64 k] w (GvE (x.k = k) (rwV r) w) := by
  obtain ⟨k1, n1, ba1, bn1, bc1, s1, la1, ln1, lc1, rfl⟩ := hr.shape; obtain ⟨rows, p⟩ := hr.parts; have hkk : x.k = k1 := p.k.symm; obtain ⟨W0, hW0⟩ : ∃ W0, (w.alloc (.cells (rwC ⟨k1, n1, .slice ba1 bn1 bc1, s1, .slice la1 ln1 lc1⟩).toArray 62)).alloc (.cells #[.int .i64 0, .int .u64 0, .slice none 0 0, .string ⟨#[]⟩, .slice none 0 0] 62) = W0 := ⟨_, rfl⟩
  have hW1 : Below w.heap.size w W0 := by rw [← hW0]; exact (below_alloc w (.cells (rwC ⟨k1, n1, .slice ba1 bn1 bc1, s1, .slice la1 ln1 lc1⟩).toArray 62)).alloc (by simp) (.cells #[.int .i64 0, .int .u64 0, .slice none 0 0, .string ⟨#[]⟩, .slice none 0 0] 62)
  have X0 : RowAt W0 w.heap.size (rwC ⟨k1, n1, .slice ba1 bn1 bc1, s1, .slice la1 ln1 lc1⟩).toArray 62 := by rw [← hW0]; exact (RowAt.new w _ _).below (below_alloc _ _)
  have Z0 : RowAt W0 (w.heap.size + 1) #[.int .i64 0, .int .u64 0, .slice none 0 0, .string ⟨#[]⟩, .slice none 0 0] 62 := by
    have := RowAt.new (w.alloc (.cells (rwC ⟨k1, n1, .slice ba1 bn1 bc1, s1, .slice la1 ln1 lc1⟩).toArray 62)) #[.int .i64 0, .int .u64 0, .slice none 0 0, .string ⟨#[]⟩, .slice none 0 0] 62; rw [hW0, World.size_alloc] at this; exact this
  rw [hkk]; have HZ0 := Lib.hid Z0; have HW1 := Lib.hid hW1; have x0 := X0.cell (i := 0) (v := .int .i64 k1) rfl; have x1 := X0.cell (i := 1) (v := .int .u64 n1) rfl; have x2 := X0.cell (i := 2) (v := .slice ba1 bn1 bc1) rfl; have x3 := X0.cell (i := 3) (v := .string s1) rfl; have x4 := X0.cell (i := 4) (v := .slice la1 ln1 lc1) rfl; have z0 := Z0.cell (i := 0) rfl; have z1 := Z0.cell (i := 1) rfl; have z2 := Z0.cell (i := 2) rfl; have z3 := Z0.cell (i := 3) rfl; have z4 := Z0.cell (i := 4) rfl; have f0 := Z0.fz 0; have f1 := Z0.fz 1; have f2 := Z0.fz 2; have f3 := Z0.fz 3; have f4 := Z0.fz 4; clear hr p hkk X0 Z0 hW1; by_cases hc : k1 = k
  · subst hc
    rw [GvE_yes rfl]; go_enter Tryz.func99, Tryz.ntmps99
    go_wp2_with (first
      | (go_at_call 42; with_reducible refine (prMust_yes _ _).mono ?_; rintro en wn ⟨rfl, rfl⟩))
    obtain ⟨h5, hb5⟩ := set5 HZ0.out (.int .i64 k1) (.int .u64 n1) (.slice ba1 bn1 bc1) (.string s1) (.slice la1 ln1 lc1); have g0 := RowAt.cell h5 (i := 0) rfl; have g1 := RowAt.cell h5 (i := 1) rfl; have g2 := RowAt.cell h5 (i := 2) rfl; have g3 := RowAt.cell h5 (i := 3) rfl; have g4 := RowAt.cell h5 (i := 4) rfl; refine bodyPost_ret (v := rwV ⟨k1, n1, .slice ba1 bn1 bc1, s1, .slice la1 ln1 lc1⟩) (by simp [results, Tryz.results99, go_sem, g0, g1, g2, g3, g4]) rfl ?_; exact ⟨HW1.out.trans (hb5.below (fun j e => by omega) HW1.out.size), rfl⟩
  · have hd : (k1 == k) = false := by rw [beq_eq_false_iff_ne]; exact hc
    rw [GvE_no hc]; clear hc; go_enter Tryz.func99, Tryz.ntmps99
    go_wp2_with (first
      | (go_at_call 42; with_reducible refine (prMust_no _ _).mono ?_; rintro en wn ⟨rfl, rfl⟩))
    exact ⟨rfl, HW1.out, rfl⟩
theorem prField1 (a b c d e : Value) (w : World) : (Instr.field 62 (.agg #[a, b, c, d, e]) 1).run Tryz.prog w = .ok b w := by kernel_rfl
theorem prField2 (a b c d e : Value) (w : World) : (Instr.field 62 (.agg #[a, b, c, d, e]) 2).run Tryz.prog w = .ok c w := by kernel_rfl
theorem prField4 (a b c d e : Value) (w : World) : (Instr.field 62 (.agg #[a, b, c, d, e]) 4).run Tryz.prog w = .ok e w := by kernel_rfl
theorem prUpTo_c (S : Nat → Prop) (x : It) (r : Rw) (b : Nat) (w : World) (hr : ItR S w x r) : Calls Tryz.prog 100 #[rwV r, .int .u64 b] w (GvE (x.k = 1 ∧ x.n ≤ b) (.int .u64 x.n) w) := by
  obtain ⟨k1, n1, ba1, bn1, bc1, s1, la1, ln1, lc1, rfl⟩ := hr.shape; obtain ⟨rows, p⟩ := hr.parts; have hnn : x.n = n1 := p.n.symm; have hW1 := below_alloc w (.cells (rwC ⟨k1, n1, .slice ba1 bn1 bc1, s1, .slice la1 ln1 lc1⟩).toArray 62); have X0 := RowAt.new w (rwC ⟨k1, n1, .slice ba1 bn1 bc1, s1, .slice la1 ln1 lc1⟩).toArray 62; have has := prAs_c S x ⟨k1, n1, .slice ba1 bn1 bc1, s1, .slice la1 ln1 lc1⟩ 1 _ (hr.up hW1); have HX0 := Lib.hid X0; have HW1 := Lib.hid hW1; have x0 := X0.cell (i := 0) (v := .int .i64 k1) rfl; have x1 := X0.cell (i := 1) (v := .int .u64 n1) rfl; have x2 := X0.cell (i := 2) (v := .slice ba1 bn1 bc1) rfl; have x3 := X0.cell (i := 3) (v := .string s1) rfl; have x4 := X0.cell (i := 4) (v := .slice la1 ln1 lc1) rfl; rw [hnn]; clear hr p hnn X0 hW1; have hf1 := prField1 (.int .i64 k1) (.int .u64 n1) (.slice ba1 bn1 bc1) (.string s1) (.slice la1 ln1 lc1)
  by_cases hk : x.k = 1
  · rw [GvE_yes hk] at has
    have HAS := Lib.hid (show Calls Tryz.prog 99 #[rwV ⟨k1, n1, .slice ba1 bn1 bc1, s1, .slice la1 ln1 lc1⟩, .int .i64 1] (w.alloc (.cells (rwC ⟨k1, n1, .slice ba1 bn1 bc1, s1, .slice la1 ln1 lc1⟩).toArray 62)) (fun en w' => Below (w.alloc (.cells (rwC ⟨k1, n1, .slice ba1 bn1 bc1, s1, .slice la1 ln1 lc1⟩).toArray 62)).heap.size (w.alloc (.cells (rwC ⟨k1, n1, .slice ba1 bn1 bc1, s1, .slice la1 ln1 lc1⟩).toArray 62)) w' ∧ en = .returned (.agg #[.int .i64 k1, .int .u64 n1, .slice ba1 bn1 bc1, .string s1, .slice la1 ln1 lc1])) from has); clear has; by_cases hc : n1 ≤ b
    · have hd : decide (n1 ≤ (b : Int)) = true := decide_eq_true hc
      rw [GvE_yes ⟨hk, hc⟩]; clear hk hc; go_enter Tryz.func100, Tryz.ntmps100
      go_wp2_with (first
        | (go_at_call 99; refine HAS.out.mono ?_; rintro en w1 ⟨hb1, rfl⟩; have y1 := (HX0.out.below hb1).cell (i := 1) (v := .int .u64 n1) rfl)
        | (go_at_call 42; with_reducible refine (prMust_yes _ _).mono ?_; rintro en wn ⟨rfl, rfl⟩))
      go_ret; exact ⟨below_up HW1.out hb1, rfl⟩
    · have hd : decide (n1 ≤ (b : Int)) = false := decide_eq_false hc
      rw [GvE_no (fun h => hc h.2)]; clear hk hc; go_enter Tryz.func100, Tryz.ntmps100
      go_wp2_with (first
        | (go_at_call 99; refine HAS.out.mono ?_; rintro en w1 ⟨hb1, rfl⟩)
        | (go_at_call 42; with_reducible refine (prMust_no _ _).mono ?_; rintro en wn ⟨rfl, rfl⟩))
      exact ⟨rfl, below_up HW1.out hb1, rfl⟩
  · rw [GvE_no hk] at has
    have HAS := Lib.hid has; clear has; rw [GvE_no (fun h => hk h.1)]; clear hk; go_enter Tryz.func100, Tryz.ntmps100
    go_wp2_with (first
      | (go_at_call 99; refine HAS.out.mono ?_; rintro en w1 ⟨hb1, rfl⟩))
    exact ⟨rfl, below_up HW1.out hb1, rfl⟩
theorem prOf_c (x : It) (r : Rw) (w : World) (hr : ItR (fun j => j < w.heap.size) w x r) (hcx : Cb.cnt x ≤ 1000000) : Calls Tryz.prog 101 #[rwV r] w (GvE (okE x = true) (epV (ofA x) (ofB x)) w) := by
  obtain ⟨k1, n1, ba1, bn1, bc1, s1, la1, ln1, lc1, rfl⟩ := hr.shape; have hW1 := (below_alloc w (.cells (rwC ⟨k1, n1, .slice ba1 bn1 bc1, s1, .slice la1 ln1 lc1⟩).toArray 62)).alloc (by simp) (.cells #[.int .u32 0, .int .u32 0] 25); have X0 : RowAt ((w.alloc (.cells (rwC ⟨k1, n1, .slice ba1 bn1 bc1, s1, .slice la1 ln1 lc1⟩).toArray 62)).alloc (.cells #[.int .u32 0, .int .u32 0] 25)) w.heap.size (rwC ⟨k1, n1, .slice ba1 bn1 bc1, s1, .slice la1 ln1 lc1⟩).toArray 62 := (RowAt.new w _ _).below (below_alloc _ _)
  have Z0 : RowAt ((w.alloc (.cells (rwC ⟨k1, n1, .slice ba1 bn1 bc1, s1, .slice la1 ln1 lc1⟩).toArray 62)).alloc (.cells #[.int .u32 0, .int .u32 0] 25)) (w.heap.size + 1) #[.int .u32 0, .int .u32 0] 25 := by
    have := RowAt.new (w.alloc (.cells (rwC ⟨k1, n1, .slice ba1 bn1 bc1, s1, .slice la1 ln1 lc1⟩).toArray 62)) #[.int .u32 0, .int .u32 0] 25
    rwa [World.size_alloc] at this
  have hof := of_c x ⟨k1, n1, .slice ba1 bn1 bc1, s1, .slice la1 ln1 lc1⟩ _ ((hr.up hW1).mono (fun k e => Nat.lt_of_lt_of_le e hW1.size)) hcx; unfold ofV at hof; have HZ0 := Lib.hid Z0; have HW1 := Lib.hid hW1
  have hs0 : ((w.alloc (.cells (rwC ⟨k1, n1, .slice ba1 bn1 bc1, s1, .slice la1 ln1 lc1⟩).toArray 62)).alloc (.cells #[.int .u32 0, .int .u32 0] 25)).heap.size = w.heap.size + 2 := by simp
  have HS0 := Lib.hid hs0; have x0 := X0.cell (i := 0) (v := .int .i64 k1) rfl; have x1 := X0.cell (i := 1) (v := .int .u64 n1) rfl; have x2 := X0.cell (i := 2) (v := .slice ba1 bn1 bc1) rfl; have x3 := X0.cell (i := 3) (v := .string s1) rfl; have x4 := X0.cell (i := 4) (v := .slice la1 ln1 lc1) rfl; clear hr hcx X0 Z0 hW1 hs0; generalize ofA x = A at *; generalize ofB x = B at *; generalize okE x = ok at *; cases ok
  · have HOF := Lib.hid hof
    clear hof; rw [GvE_no (by decide)]; simp only [Bool.false_eq_true, if_false] at HOF; go_enter Tryz.func101, Tryz.ntmps101
    go_wp2_with (first
      | (go_at_call 127; refine HOF.out.mono ?_; rintro en w1 ⟨rfl, hb1⟩)
      | (go_at_call 42; with_reducible refine (prMust_no _ _).mono ?_; rintro en wn ⟨rfl, rfl⟩))
    exact ⟨rfl, (below_up HW1.out hb1).trans ((below_alloc w1 _).mono (below_up HW1.out hb1).size), rfl⟩
  · have HOF := Lib.hid hof
    clear hof; rw [GvE_yes rfl]; simp only [if_true] at HOF; go_enter Tryz.func101, Tryz.ntmps101
    go_wp2_with (first
      | (go_at_call 127; refine HOF.out.mono ?_; rintro en w1 ⟨rfl, hb1⟩; have Y1 := RowAt.new w1 #[.int .u32 A, .int .u32 B] 25; have y0 := Y1.cell (i := 0) (v := .int .u32 A) rfl; have y1 := Y1.cell (i := 1) (v := .int .u32 B) rfl; have Z2 := (HZ0.out.below hb1).below (below_alloc w1 (.cells #[.int .u32 A, .int .u32 B] 25)); have z0 := Z2.cell (i := 0) rfl; have z1 := Z2.cell (i := 1) rfl; have f0 := Z2.fz 0; have f1 := Z2.fz 1)
      | (go_at_call 42; with_reducible refine (prMust_yes _ _).mono ?_; rintro en wn ⟨rfl, rfl⟩))
    have hZ := (Z2.set 0 (.int .u32 A)).set 1 (.int .u32 B); have g0 := RowAt.cell hZ (i := 0) (v := .int .u32 A) rfl; have g1 := RowAt.cell hZ (i := 1) (v := .int .u32 B) rfl; refine bodyPost_ret (v := epV A B) (by simp [results, Tryz.results101, go_sem, g0, g1]) rfl ?_; have D1 := (below_up HW1.out hb1).trans ((below_alloc w1 (.cells #[.int .u32 A, .int .u32 B] 25)).mono (below_up HW1.out hb1).size); have hs := HS0.out; have hs1 := hb1.size; exact ⟨D1.trans (((But.setCell (O := fun j => j = w.heap.size + 1) _ _ _ (.inl rfl)).trans (But.setCell _ _ _ (.inl rfl))).below (fun j e => by omega) D1.size), rfl⟩
end Go.Proofs.YtpkonagjnfphkaaGreatDoor
namespace Go.Proofs.YtpkonagjnfphkaaGreatDoor
open Go.RowKit
namespace Clk
def topF (n : Int) : Int := if n ≤ 4611686018427387903 then n else 4611686018427387903
theorem topF_lo {n : Int} (h : n ≤ 4611686018427387903) : topF n = n := by unfold topF; rw [if_pos h]
theorem topF_hi {n : Int} (h : 4611686018427387903 ≤ n) : topF n = 4611686018427387903 := by unfold topF; split <;> omega
theorem topF_b (n : Int) (h : 0 ≤ n) : 0 ≤ topF n ∧ topF n ≤ 4611686018427387903 := by unfold topF; split <;> omega
theorem topF_topF (n : Int) : topF (topF n) = topF n := by unfold topF; split <;> simp [*]
def part (a b : Int) (k : Nat) : Int := match k with | 0 => 0 | 1 => topF a | _ => topF (topF a + topF b)
theorem part_s0 (a b : Int) : topF (part a b 0 + topF a) = part a b 1 := by simp [part, topF_topF]
theorem part_s1 (a b : Int) : topF (part a b 1 + topF b) = part a b 2 := rfl
theorem part_b (a b : Int) (k : Nat) (ha : 0 ≤ a) (hb : 0 ≤ b) : 0 ≤ part a b k ∧ part a b k ≤ 4611686018427387903 := by
  have h1 := topF_b a ha; have h2 := topF_b b hb; have h3 := topF_b (topF a + topF b) (by omega); unfold part
  split <;> omega
def addF (a b : Int) : Int := topF (topF a + topF b)
end Clk
theorem cktop_c (n : Int) (w : World) : Calls Tryz.prog 72 #[.int .u64 n] w fun e w' => e = .returned (.int .u64 (Clk.topF n)) ∧ w = w' := by
  by_cases h : n ≤ 4611686018427387903
  · have hmn : min n 4611686018427387903 = n := by omega
    rw [Clk.topF_lo h]; go_enter Tryz.func72, Tryz.ntmps72; go_wp2; go_ret; exact ⟨rfl, rfl⟩
  · have hmn : min n 4611686018427387903 = 4611686018427387903 := by omega
    rw [Clk.topF_hi (by omega)]; go_enter Tryz.func72, Tryz.ntmps72; go_wp2; go_ret; exact ⟨rfl, rfl⟩
open Go.RowKit
theorem ckslT_u64 : SlT Tryz.prog 112 26 1 8 := SlT.mk' Tryz.underlying112 (z := .int .u64 0) (by kernel_rfl) rfl (by decide)
theorem ckcloneU_c (l : List Int) (v : Value) (n : Nat) (w : World) (hv : Sl w 1 v n (l.map (.int .u64))) (hn : n * 8 ≤ 140737488351232) :
    Calls Tryz.prog 112 #[v] w fun e w' => ∃ v', e = .returned v' ∧ w'.ownsRow w.heap.size 26 1 v' n (l.map (.int .u64)) ∧ Below w.heap.size w w' := by
  obtain ⟨a, c, rfl⟩ := hv.len
  have he := fun (w : World) (a : Option Addr) (n c : Nat) => Lib.run_eql_slice_nil (P := Tryz.prog) w 112 26 a n c 0 0 Tryz.underlying112
  cases a with
  | none =>
    have h0 : n = 0 ∧ l = [] := by
      obtain ⟨hl, ⟨a, c, h1, rfl⟩ | ⟨b, off, cap, h1, _⟩⟩ := hv
      · exact ⟨rfl, by simpa using hl⟩
      · simp at h1
    obtain ⟨rfl, rfl⟩ := h0; go_enter Tryz.func112, Tryz.ntmps112; go_wp2; go_ret; exact ⟨_, rfl, World.ownsRow_nil _ _ _ _, Below.refl _ _⟩
  | some a =>
    go_enter Tryz.func112, Tryz.ntmps112
    go_wp2_with (at_builtin; refine wpList_app rfl _ _ 112 rfl ckslT_u64 w.heap.size rfl (World.ownsRow_lit w #[] 0 (Nat.le_refl _) (by decide) rfl) rfl (hv.up ((Below.refl _ _).alloc (Nat.le_refl _) _)) (one_int _ _) (by simp [maxLen]; omega) (by omega) (by simp) ?_; intro v' w1 hown hgrow _)
    go_ret; exact ⟨v', rfl, by simpa using hown, grown_below ((Below.refl _ _).alloc (Nat.le_refl _) _) hgrow (fun k hk => by have : w.heap.size = k := Option.some.inj hk; omega)⟩
namespace Clk
def topTo (l : List Int) (k : Nat) : List Int := (l.take k).map topF ++ l.drop k
theorem topTo_zero (l : List Int) : topTo l 0 = l := by simp [topTo]
theorem topTo_all (l : List Int) (k : Nat) (h : l.length ≤ k) : topTo l k = l.map topF := by simp [topTo, List.take_of_length_le h, List.drop_eq_nil_of_le h]
theorem topTo_get (l : List Int) (k : Nat) (h : k < l.length) : (topTo l k)[k]? = l[k]? := by
  simp [topTo, List.getElem?_append, List.length_take, Nat.min_eq_left (Nat.le_of_lt h)]
theorem topTo_set (l : List Int) (k : Nat) (h : k < l.length) : (topTo l k).set k (topF l[k]) = topTo l (k + 1) := by
  apply List.ext_getElem?; intro j; simp only [topTo, List.getElem?_set, List.getElem?_append, List.length_map, List.length_take, List.getElem?_map, List.getElem?_take, List.getElem?_drop, List.length_append, List.length_drop]; rcases Nat.lt_trichotomy j k with hj | rfl | hj
  · rw [if_neg (by omega), if_pos (by omega), if_pos (by omega), if_pos (by omega), if_pos (by omega)]
  · rw [if_pos rfl, if_pos (by omega), if_pos (by omega), if_pos (by omega), List.getElem?_eq_getElem h]; rfl
  · rw [if_neg (by omega), if_neg (by omega), if_neg (by omega)]; congr 1; omega
end Clk
theorem cktimes_c (l : List Int) (v : Value) (n : Nat) (w : World) (hv : Sl w 1 v n (l.map (.int .u64))) (hn : n * 8 ≤ 140737488351232) :
    Calls Tryz.prog 73 #[v] w fun e w' => ∃ v', e = .returned v' ∧ w'.ownsRow w.heap.size 26 1 v' n ((l.map Clk.topF).map (.int .u64)) ∧ Below w.heap.size w w' := by
  have hln : l.length = n := by have := hv.1; simpa using this
  have Hln := Lib.hid hln; clear hln; go_enter Tryz.func73, Tryz.ntmps73
  go_wp2_with (go_at_call 112; refine (ckcloneU_c l v n _ hv hn).mono ?_; rintro e w1 ⟨v1, rfl, hown, hb⟩; obtain ⟨a1, c1, rfl⟩ := (Sl.of_own hown).len)
  go_loopw [10] (fun i wr => ∃ k : Nat, k ≤ n ∧ i = .int .i64 k ∧ wr.ownsRow w.heap.size 26 1 (.slice a1 n c1) n ((Clk.topTo l k).map (.int .u64)) ∧ Below w.heap.size w wr) (fun i _ => n - (intOf i).toNat)
  case atStart => exact ⟨0, Nat.zero_le _, rfl, by rw [Clk.topTo_zero]; exact hown, hb⟩
  case round =>
    obtain ⟨k, hk, rfl, ho, hB⟩ := hrel
    have hm : n ≤ 9223372036854775807 := by omega
    by_cases hlt : k < n
    · obtain ⟨g, rfl, hg0, hg1⟩ := own_some ho (by omega)
      have hlt' : k < l.length := by rw [Hln.out]; exact hlt
      have hc : wr.cell? ⟨g, k, none⟩ = some (.int .u64 l[k]) := by
        rw [ho.cellAt k (by omega)]; simp [Clk.topTo_get l k hlt', hlt']
      have hf := ho.frozenAt k; have hst := ho.stored k (.int .u64 (Clk.topF l[k])); have Hst := Lib.hid hst; clear hst ho hown
      go_wp2_with (go_at_call 72; refine (cktop_c _ _).mono ?_; rintro e w1 ⟨rfl, rfl⟩)
      go_roundw
      case rel => exact ⟨k + 1, by omega, by go_num, by rw [← Clk.topTo_set l k hlt', List.map_set]; exact Hst.out.1, hB.setCell hg0 _⟩
      case measure => simp [intOf]; omega
    · obtain rfl : k = n := by omega
      go_wp2; go_ret; exact ⟨_, rfl, by rw [← Clk.topTo_all l k (by rw [Hln.out]; exact Nat.le_refl _)]; exact ho, hB⟩
namespace Clk
def idx {α : Type} (p : α → Bool) (l : List α) : Int := match l.findIdx? p with | some i => i | none => -1
theorem idx_some {α : Type} {p : α → Bool} {l : List α} {k : Nat} (hk : k < l.length) (h : ∀ j, j < k → ∀ hj : j < l.length, p l[j] = false) (hp : p l[k] = true) : idx p l = k := by
  have : l.findIdx? p = some k := by
    rw [List.findIdx?_eq_some_iff_getElem]; exact ⟨hk, hp, fun j hj => by simp [h j hj (by omega)]⟩
  simp [idx, this]
theorem idx_none {α : Type} {p : α → Bool} {l : List α} (h : ∀ j, ∀ hj : j < l.length, p l[j] = false) : idx p l = -1 := by
  have : l.findIdx? p = none := by
    rw [List.findIdx?_eq_none_iff]; intro x hx; obtain ⟨j, hj, rfl⟩ := List.getElem_of_mem hx; exact h j hj
  simp [idx, this]
theorem idx_any {α : Type} (p : α → Bool) (l : List α) : decide (0 ≤ idx p l) = l.any p := by
  unfold idx
  cases h : l.findIdx? p with
  | none =>
    rw [List.findIdx?_eq_none_iff] at h
    have : l.any p = false := by rw [List.any_eq_false]; intro x hx; simp [h x hx]
    rw [this]; rfl
  | some i =>
    have : l.any p = true := by
      rw [List.findIdx?_eq_some_iff_getElem] at h; obtain ⟨hi, hp, _⟩ := h; exact List.any_eq_true.2 ⟨l[i], List.getElem_mem hi, hp⟩
    rw [this]; simp
end Clk
theorem ckindexU_c (l : List Int) (v : Value) (n : Nat) (w : World) (hv : Sl w 1 v n (l.map (.int .u64))) (hn : n * 8 ≤ 140737488351232) (f : FuncId) (hf : Enters Tryz.prog f) (caps : Array Value) (p : Int → Bool)
    (hp : ∀ x ∈ l, ∀ w1, Below w.heap.size w w1 → Calls Tryz.prog f (#[.int .u64 x] ++ caps) w1 (Ret (.bool (p x)) w1)) :
    Calls Tryz.prog 143 #[v, .func (.func f) #[] caps] w (Ret (.int .i64 (Clk.idx p l)) w) := by
  have hln : l.length = n := by have := hv.1; simpa using this
  obtain ⟨a1, c1, rfl⟩ := hv.len; have Hln := Lib.hid hln; clear hln; go_enter Tryz.func143, Tryz.ntmps143; go_wp2
  go_loopw [8] (fun i wr => ∃ k : Nat, k ≤ n ∧ i = .int .i64 k ∧ (∀ j, j < k → ∀ hj : j < l.length, p l[j] = false) ∧ Below w.heap.size w wr) (fun i _ => n - (intOf i).toNat)
  case atStart => exact ⟨0, Nat.zero_le _, rfl, by intro j hj; omega, Below.refl _ _⟩
  case round =>
    obtain ⟨k, hk, rfl, hno, hB⟩ := hrel
    have hm : n ≤ 9223372036854775807 := by omega
    have Hno := Lib.hid hno; clear hno; by_cases hlt : k < n
    · have hlt' : k < l.length := by rw [Hln.out]; exact hlt
      obtain ⟨b, off, rfl, hc⟩ := (hv.up hB).cellAt (k := k) (by omega) (by omega)
      have hc1 : wr.cell? ⟨b, off + k, none⟩ = some (.int .u64 l[k]) := by
        simpa [hlt'] using hc
      have hcall := hp l[k] (List.getElem_mem hlt') wr hB; unfold Enters at hf; by_cases hpk : p l[k] = true
      · rw [hpk] at hcall
        have Hpk := Lib.hid hpk; clear hpk
        go_wp2_with (refine hcall.mono ?_; rintro e w1 ⟨rfl, hb⟩)
        go_ret; exact ⟨retI (Clk.idx_some hlt' Hno.out Hpk.out).symm, hB.trans (hb.mono hB.size)⟩
      · have hpk : p l[k] = false := by simpa using hpk
        rw [hpk] at hcall; have Hpk := Lib.hid hpk; clear hpk
        go_wp2_with (refine hcall.mono ?_; rintro e w1 ⟨rfl, hb⟩)
        go_roundw
        case rel =>
          refine ⟨k + 1, by omega, by go_num, fun j hj hj' => ?_, hB.trans (hb.mono hB.size)⟩; rcases Nat.lt_or_ge j k with h | h
          · exact Hno.out j h hj'
          · obtain rfl : j = k := by omega
            exact Hpk.out
        case measure => simp [intOf]; omega
    · obtain rfl : k = n := by omega
      go_wp2; go_ret; exact ⟨retI (Clk.idx_none fun j hj => Hno.out j (by rw [← Hln.out]; exact hj) hj).symm, hB⟩
open Go.RowKit
theorem ckcontainsU_c (l : List Int) (v : Value) (n : Nat) (w : World) (hv : Sl w 1 v n (l.map (.int .u64))) (hn : n * 8 ≤ 140737488351232) (f : FuncId) (hf : Enters Tryz.prog f) (caps : Array Value) (p : Int → Bool)
    (hp : ∀ x ∈ l, ∀ w1, Below w.heap.size w w1 → Calls Tryz.prog f (#[.int .u64 x] ++ caps) w1 (Ret (.bool (p x)) w1)) :
    Calls Tryz.prog 121 #[v, .func (.func f) #[] caps] w (Ret (.bool (l.any p)) w) := by
  go_enter Tryz.func121, Tryz.ntmps121
  go_wp2_with (go_at_call 143; refine (ckindexU_c l v n _ hv hn f hf caps p hp).mono ?_; rintro e w1 ⟨rfl, hb⟩)
  go_ret; exact ⟨retB (Clk.idx_any p l), hb⟩
theorem ckallU1_c (x : Int) (b : Nat) (f : FuncId) (hf : Enters Tryz.prog f) (caps : Array Value) (p : Bool) (w : World) (hc : w.cell? ⟨b, 0, none⟩ = some (.func (.func f) #[] caps))
    (hp : Calls Tryz.prog f (#[.int .u64 x] ++ caps) w (Ret (.bool p) w)) :
    Calls Tryz.prog 122 #[.int .u64 x, .pointer (some ⟨b, 0, none⟩)] w (Ret (.bool (!p)) w) := by
  unfold Enters at hf; go_enter Tryz.func122, Tryz.ntmps122
  go_wp2_with (refine hp.mono ?_; rintro e w1 ⟨rfl, hb⟩)
  go_ret; exact ⟨rfl, hb⟩
theorem ckenters_allU1 : Enters Tryz.prog 122 := enters_of Tryz.func122 (by kernel_rfl) rfl
theorem ckallU_c (l : List Int) (v : Value) (n : Nat) (w : World) (hv : Sl w 1 v n (l.map (.int .u64))) (hn : n * 8 ≤ 140737488351232) (f : FuncId) (hf : Enters Tryz.prog f) (caps : Array Value) (p : Int → Bool)
    (hp : ∀ x ∈ l, ∀ w1, Below w.heap.size w w1 → Calls Tryz.prog f (#[.int .u64 x] ++ caps) w1 (Ret (.bool (p x)) w1)) :
    Calls Tryz.prog 96 #[.func (.func f) #[] caps, v] w (Ret (.bool (l.all p)) w) := by
  have hmf : ∀ (fn : Fn) (first cap : Array Value) (w : World), (Instr.makeFunc fn first cap).run Tryz.prog w = .ok (.func fn first cap) w := fun _ _ _ _ => rfl
  go_enter Tryz.func96, Tryz.ntmps96
  go_wp2_with (go_at_call 121; refine (ckcontainsU_c l v n _ (hv.up (below_alloc _ _)) hn _ ckenters_allU1 #[.pointer (some ⟨w.heap.size, 0, none⟩)] (fun x => !p x) (fun x hx w1 hB => Calls.cast rfl (ckallU1_c x w.heap.size f hf caps (p x) w1 (cell_up hB (cell_new _ _ _)) (hp x hx w1 (below_new hB))))).mono ?_; rintro e w1 ⟨rfl, hb⟩)
  go_ret; exact ⟨retB (by rw [← List.not_all_eq_any_not]; simp), below_new hb⟩
theorem ckcheck1_c (n : Int) (w : World) : Calls Tryz.prog 97 #[.int .u64 n] w (Ret (.bool (decide (n ≤ 4611686018427387903))) w) := by
  go_enter Tryz.func97, Tryz.ntmps97; go_wp2; go_ret; exact ⟨rfl, Below.refl _ _⟩
theorem ckenters_check1 : Enters Tryz.prog 97 := enters_of Tryz.func97 (by kernel_rfl) rfl
theorem ckcheck_c (l : List Int) (v : Value) (n : Nat) (w : World) (hv : Sl w 1 v n (l.map (.int .u64))) (hn : n * 8 ≤ 140737488351232) :
    Calls Tryz.prog 55 #[v] w (Ret (.int .i64 (if l.all (fun n => decide (n ≤ 4611686018427387903)) then 0 else 2)) w) := by
  have hmf : ∀ (fn : Fn) (first cap : Array Value) (w : World), (Instr.makeFunc fn first cap).run Tryz.prog w = .ok (.func fn first cap) w := fun _ _ _ _ => rfl
  generalize hx : l.all (fun n => decide (n ≤ 4611686018427387903)) = x; have Hx := Lib.hid hx; clear hx; cases x
  all_goals
    go_enter Tryz.func55, Tryz.ntmps55
    go_wp2_with (go_at_call 96; refine (ckallU_c l v n _ hv hn _ ckenters_check1 #[] (fun n => decide (n ≤ 4611686018427387903)) (fun x hx w1 hB => Calls.cast rfl (ckcheck1_c x w1))).mono ?_; rw [Hx.out]; rintro e w1 ⟨rfl, hb⟩)
    go_ret; exact ⟨rfl, hb⟩
theorem ckadd1_c (x n : Int) (b : Nat) (w : World) (hc : w.cell? ⟨b, 0, none⟩ = some (.int .u64 n)) (hf : w.frozen? ⟨b, 0, none⟩ = false) (h0 : 0 ≤ n + x) (h1 : n + x ≤ 18446744073709551615) :
    Calls Tryz.prog 71 #[.int .u64 x, .pointer (some ⟨b, 0, none⟩)] w fun e w' => e = .returned (.tuple #[]) ∧ w' = w.setCell ⟨b, 0, none⟩ (.int .u64 (Clk.topF (n + x))) := by
  go_enter Tryz.func71, Tryz.ntmps71
  go_wp2_with (go_at_call 72; refine (cktop_c _ _).mono ?_; rintro e w1 ⟨rfl, rfl⟩)
  go_end0
  exact ⟨rfl, rfl⟩
theorem ckadd_c (a b : Int) (w : World) (ha : 0 ≤ a) (hb : 0 ≤ b) : Calls Tryz.prog 38 #[.int .u64 a, .int .u64 b] w (Ret (.int .u64 (Clk.addF a b)) w) := by
  have hmf : ∀ (fn : Fn) (first cap : Array Value) (w : World), (Instr.makeFunc fn first cap).run Tryz.prog w = .ok (.func fn first cap) w := fun _ _ _ _ => rfl
  have hsl : Sl ((w.alloc (.cells #[.int .u64 0] 26)).alloc (.cells #[.int .u64 a, .int .u64 b] 26)) 1 (.slice (some ⟨w.heap.size + 1, 0, none⟩) 2 2) 2 ([a, b].map (.int .u64)) :=
    Sl.of_own (by have := World.ownsRow_lit (w.alloc (.cells #[.int .u64 0] 26)) #[.int .u64 a, .int .u64 b] 2 (size := 1) (e := 26) (Nat.le_refl _) (by decide) rfl; simpa using this)
  have hB0 : Below w.heap.size w ((w.alloc (.cells #[.int .u64 0] 26)).alloc (.cells #[.int .u64 a, .int .u64 b] 26)) := (below_alloc _ _).alloc (by simp) _; obtain ⟨ta0, ta1⟩ := Clk.topF_b a ha; obtain ⟨tb0, tb1⟩ := Clk.topF_b b hb; go_enter Tryz.func38, Tryz.ntmps38
  go_wp2_with (go_at_call 73; refine (cktimes_c [a, b] _ 2 _ hsl (by decide)).mono ?_; rintro e w1 ⟨v1, rfl, hs1, hb1⟩; obtain ⟨a1, c1, rfl⟩ := (Sl.of_own hs1).len)
  have hcn : w1.cell? ⟨w.heap.size, 0, none⟩ = some (.int .u64 0) := cell_up hb1 (by rw [World.cell?_alloc_past _ _ _ (by simp)]; exact cell_new _ _ _); have hfn : w1.frozen? ⟨w.heap.size, 0, none⟩ = false := frozen_up hb1 (by rw [World.cell?_alloc_past _ _ _ (by simp)]; exact cell_new _ _ _) (by rw [World.frozen?_alloc_past _ _ _ (by simp)]; exact frozen_new _ _ _); have hB1 : Below w.heap.size w w1 := below_up hB0 hb1; obtain ⟨g, rfl, hg0, hg1⟩ := own_some hs1 (by decide); simp at hg0
  have hgn : g ≠ w.heap.size := by omega
  clear hsl hB0 hb1
  go_loopw [15] (fun i wr => ∃ k : Nat, k ≤ 2 ∧ i = .int .i64 k ∧ wr.ownsRow (w.heap.size + 2) 26 1 (.slice (some ⟨g, 0, none⟩) 2 c1) 2 [.int .u64 (Clk.topF a), .int .u64 (Clk.topF b)] ∧ wr.cell? ⟨w.heap.size, 0, none⟩ = some (.int .u64 (Clk.part a b k)) ∧ wr.frozen? ⟨w.heap.size, 0, none⟩ = false ∧ Below w.heap.size w wr) (fun i _ => 2 - (intOf i).toNat)
  case atStart => exact ⟨0, Nat.zero_le _, rfl, by simpa using hs1, hcn, hfn, hB1⟩
  case round =>
    obtain ⟨k, hk, rfl, ho, hcn', hfn', hB⟩ := hrel; clear hcn hfn hs1 hB1; have hpb := Clk.part_b a b k ha hb
    have hlt3 : k = 0 ∨ k = 1 ∨ k = 2 := by omega
    rcases hlt3 with rfl | rfl | rfl
    · have hc := ho.cellAt 0 (by decide)
      simp at hc
      go_wp2_with (go_at_call 71; refine (ckadd1_c _ _ _ _ hcn' hfn' (by omega) (by omega)).mono ?_; rintro e w2 ⟨rfl, rfl⟩)
      go_roundw
      case rel => exact ⟨1, by omega, by go_num, ownsRow_setCell_below ho (by simp) _, by rw [Clk.part_s0]; exact World.cell?_setCell_same' _ _ _ (by rw [hcn']; rfl), by rw [World.frozen?_setCell]; exact hfn', hB.setCell (Nat.le_refl _) _⟩
      case measure => simp [intOf]
    · have hc := ho.cellAt 1 (by decide)
      simp at hc
      go_wp2_with (go_at_call 71; refine (ckadd1_c _ _ _ _ hcn' hfn' (by omega) (by omega)).mono ?_; rintro e w2 ⟨rfl, rfl⟩)
      go_roundw
      case rel => exact ⟨2, by omega, by go_num, ownsRow_setCell_below ho (by simp) _, by rw [Clk.part_s1]; exact World.cell?_setCell_same' _ _ _ (by rw [hcn']; rfl), by rw [World.frozen?_setCell]; exact hfn', hB.setCell (Nat.le_refl _) _⟩
      case measure => simp [intOf]
    · go_wp2
      go_ret; exact ⟨rfl, hB⟩
open Go.RowKit
end Go.Proofs.YtpkonagjnfphkaaGreatDoor
