/-
  NmOfs, NmNu, NmRc, NmPr: several texts in one (bundle.py).
-/
import Derived.Test.YtpkonagjnfphkaaGreatDoorPmB25
import Derived.Test.YtpkonagjnfphkaaGreatDoorPmB22
import Derived.Test.YtpkonagjnfphkaaGreatDoorPmB01
import Derived.Deep.LoopGhost
import Derived.Test.YtpkonagjnfphkaaGreatDoorPmB19
namespace Go.Proofs.YtpkonagjnfphkaaGreatDoor
open Go.RowKit Trc Cb
set_option linter.unusedSimpArgs false
set_option linter.unusedVariables false
abbrev ofV (x : It) : Value := .tuple #[epV (if okE x then ofA x else 0) (if okE x then ofB x else 0), .int .i64 (if okE x then 0 else 130)]
abbrev nofV (x : It) : Value := .tuple #[nmW (if okN x then naN x else 0) (if okN x then naM x else 0) (if okN x then naT x else 0) (if okN x then naS x else 0), .int .i64 (if okN x then 0 else 130)]
set_option maxHeartbeats 1000000 in
set_option maxRecDepth 100000 in
theorem of_c (x : It) (r : Rw) (w : World) (hx : ItR (fun k => k < w.heap.size) w x r) (hcx : Cb.cnt x ≤ 1000000) : Calls Tryz.prog 127 #[rwV r] w (Ret (ofV x) w) := by
  obtain ⟨k1, n1, ba1, bn1, bc1, s1, la1, ln1, lc1, rfl⟩ := hx.shape
  obtain ⟨W0, hW0⟩ : ∃ W, W = (w.alloc (.cells (rwC ⟨k1, n1, .slice ba1 bn1 bc1, s1, .slice la1 ln1 lc1⟩).toArray 62)).alloc (.cells #[.int .u32 0, .int .u32 0] 25) := ⟨_, rfl⟩
  have hb0 : Below w.heap.size w W0 := by rw [hW0]; exact (below_alloc w _).alloc (by simp) _
  have hs0 : W0.heap.size = w.heap.size + 2 := by rw [hW0]; simp
  have X0 : RowAt W0 w.heap.size (rwC ⟨k1, n1, .slice ba1 bn1 bc1, s1, .slice la1 ln1 lc1⟩).toArray 62 := by
    rw [hW0]; exact (RowAt.new w _ _).below (below_alloc _ _)
  have Z0 : RowAt W0 (w.heap.size + 1) #[.int .u32 0, .int .u32 0] 25 := by
    rw [hW0]
    have := RowAt.new (w.alloc (.cells (rwC ⟨k1, n1, .slice ba1 bn1 bc1, s1, .slice la1 ln1 lc1⟩).toArray 62)) #[.int .u32 0, .int .u32 0] 25
    rwa [World.size_alloc] at this
  have hrd := readE_c x _ W0 ((hx.up hb0).mono (fun k e => by omega)) hcx
  unfold ofV
  generalize (if okE x then ofA x else 0) = a at hrd ⊢
  generalize (if okE x then ofB x else 0) = b at hrd ⊢
  generalize (if okE x then (0 : Int) else 130) = e0 at hrd ⊢
  have HRD := Lib.hid (fun (W : World) (e : W = W0) => show Calls Tryz.prog 148 #[rwV ⟨k1, n1, .slice ba1 bn1 bc1, s1, .slice la1 ln1 lc1⟩, .func (.func 113) #[] #[], .func (.func 149) #[] #[]] W (Ret (.tuple #[epV a b, .int .i64 e0]) W0) by rw [e]; exact hrd)
  have HW0 := Lib.hid hW0
  have b0 := X0.cell (i := 0) rfl
  have b1 := X0.cell (i := 1) rfl
  have b2 := X0.cell (i := 2) rfl
  have b3 := X0.cell (i := 3) rfl
  have b4 := X0.cell (i := 4) rfl
  rw [hW0] at b0 b1 b2 b3 b4
  have HZ0 := Lib.hid Z0
  have HB0 := Lib.hid hb0
  have HS0 := Lib.hid hs0
  clear X0 Z0 hb0 hs0 hrd hW0 hx hcx
  go_enter Tryz.func127, Tryz.ntmps127
  go_wp2_with fail
  refine (HRD.out _ HW0.out.symm).mono ?_
  rintro en W1 ⟨rfl, hb1⟩
  have Z1 := HZ0.out.below hb1
  have HB1 := Lib.hid hb1
  have HZ1 := Lib.hid Z1
  have z0 := Z1.cell (i := 0) rfl
  have f0 := Z1.fz 0
  have z1 := Z1.cell (i := 1) rfl
  have f1 := Z1.fz 1
  clear hb1 Z1 b0 b1 b2 b3 b4
  go_wp2
  have hZ := (HZ1.out.set 0 (.int .u32 a)).set 1 (.int .u32 b)
  have g0 := RowAt.cell hZ (i := 0) (v := .int .u32 a) rfl
  have g1 := RowAt.cell hZ (i := 1) (v := .int .u32 b) rfl
  refine bodyPost_ret (v := .tuple #[epV a b, .int .i64 e0]) (by simp [results, Tryz.results127, go_sem, g0, g1]) rfl ?_
  exact ⟨rfl, But.below (O := fun k => w.heap.size ≤ k) ((But.of_below HB0.out).trans ((But.of_below HB1.out).trans ((But.setCell _ _ _ (by simp)).trans ((But.setCell _ _ _ (by simp)))))) (fun k e => e) (Nat.le_refl _)⟩
end Go.Proofs.YtpkonagjnfphkaaGreatDoor

namespace Go.Proofs.YtpkonagjnfphkaaGreatDoor
open Go.RowKit Trc
set_option linter.unusedSimpArgs false
set_option linter.unusedVariables false
set_option maxRecDepth 100000 in
theorem rRight_c (n m : Nat) (w : World) : Calls Tryz.prog 57 #[epV n m] w (Ret (.bool (decide (Dig.chkP n m = 0))) w) := by
  by_cases h : n = 0
  · subst h
    by_cases hm : m = 0
    · subst hm
      rw [show decide (Dig.chkP 0 0 = 0) = true from rfl]
      go_enter Tryz.func57, Tryz.ntmps57
      go_wp2
      go_ret
      exact ⟨rfl, below_alloc _ _⟩
    · have hd : (((m : Int)) == 0) = false := by simp; omega
      rw [show decide (Dig.chkP 0 m = 0) = false from decide_eq_false (by rw [show Dig.chkP 0 m = 2 from if_pos ⟨rfl, hm⟩]; decide)]
      go_enter Tryz.func57, Tryz.ntmps57
      go_wp2
      go_ret
      exact ⟨rfl, below_alloc _ _⟩
  · have hd : decide ((0 : Int) < (n : Int)) = true := decide_eq_true (by omega)
    have hd2 : decide (0 < n) = true := decide_eq_true (by omega)
    rw [show decide (Dig.chkP n m = 0) = true from decide_eq_true (if_neg (fun e => h e.1))]
    clear h
    go_enter Tryz.func57, Tryz.ntmps57
    go_wp2
    go_ret
    exact ⟨rfl, below_alloc _ _⟩
set_option maxRecDepth 100000 in
theorem rRightName_c (n m t s : Nat) (w : World) : Calls Tryz.prog 11 #[nmW n m t s] w (Ret (.bool (decide (Dig.chkN n t = 0))) w) := by
  by_cases h : n = 0
  · subst h
    rw [show decide (Dig.chkN 0 t = 0) = false from decide_eq_false (by rw [show Dig.chkN 0 t = 2 from if_pos (.inl rfl)]; decide)]
    go_enter Tryz.func11, Tryz.ntmps11
    go_wp2
    go_ret
    exact ⟨rfl, below_alloc _ _⟩
  · have hd2 : decide (0 < n) = true := decide_eq_true (by omega)
    by_cases ht : 4611686018427387903 < t
    · have hd3 : decide ((t : Int) ≤ 4611686018427387903) = false := decide_eq_false (by omega)
      have hd4 : decide (t ≤ 4611686018427387903) = false := decide_eq_false (by omega)
      rw [show decide (Dig.chkN n t = 0) = false from decide_eq_false (by rw [show Dig.chkN n t = 2 from if_pos (.inr ht)]; decide)]
      clear h
      go_enter Tryz.func11, Tryz.ntmps11
      go_wp2
      go_ret
      exact ⟨rfl, below_alloc _ _⟩
    · have hd3 : decide ((t : Int) ≤ 4611686018427387903) = true := decide_eq_true (by omega)
      have hd4 : decide (t ≤ 4611686018427387903) = true := decide_eq_true (by omega)
      rw [show decide (Dig.chkN n t = 0) = true from decide_eq_true (if_neg (fun e => by rcases e with e | e; exact h e; exact ht e))]
      clear h
      go_enter Tryz.func11, Tryz.ntmps11
      go_wp2
      go_ret
      exact ⟨rfl, below_alloc _ _⟩
end Go.Proofs.YtpkonagjnfphkaaGreatDoor

namespace Go.Proofs.YtpkonagjnfphkaaGreatDoor
open Go.RowKit
set_option linter.unusedSimpArgs false
set_option linter.unusedVariables false
theorem bdrewN (w : World) (n : Nat) : Below w.heap.size w (w.drewN n) := ⟨rfl, rfl, rfl, Nat.le_refl _, fun _ _ => rfl⟩
/-- What Cut tells. -/
def CutV (c : UInt8) (l : List UInt8) : Value := match Dig.cut c l with
  | some p => .tuple #[strV p.1, strV p.2, .bool true]
  | none => .tuple #[strV l, .string ⟨#[]⟩, .bool false]
theorem bytes_at {s : ByteArray} {l : List UInt8} (hs : s = ⟨l.toArray⟩) (k : Nat) (h : k < s.size) (h2 : k < l.length) : s[k] = l[k] := by
  subst hs
  rfl
namespace Dig
theorem val_take (l : List UInt8) (k : Nat) (hk : k < l.length) : val (l.take (k + 1)) = 10 * val (l.take k) + (l[k].toNat - 48) := by
  rw [List.take_succ_eq_append_getElem hk, val_snoc]
theorem val_lt : ∀ (l : List UInt8), l.all isD = true → val l < 10 ^ l.length := by
  intro l
  induction l using snoc_ind with
  | h0 => intro _; simp [val]
  | h1 l c ih =>
    intro h
    rw [List.all_append] at h
    obtain ⟨h1, h2⟩ := Bool.and_eq_true_iff.1 h
    have := ih h1
    simp only [List.all_cons, List.all_nil, Bool.and_true, isD, decide_eq_true_eq] at h2
    rw [val_snoc, List.length_append, List.length_singleton, Nat.pow_succ]
    omega
theorem all_take (l : List UInt8) (k : Nat) (hk : k < l.length) (h : (l.take k).all isD = true) (hd : 48 ≤ l[k].toNat) (hd2 : l[k].toNat ≤ 57) : (l.take (k + 1)).all isD = true := by
  rw [List.take_succ_eq_append_getElem hk, List.all_append, h]
  simp [isD, hd, hd2]
theorem toNum_bad {l : List UInt8} {bound : Nat} (h : l = [] ∨ 19 < l.length ∨ (1 < l.length ∧ l.head? = some 48) ∨ l.all isD = false) : toNum l bound = none := if_pos h
theorem toNum_good {l : List UInt8} {bound : Nat} (h1 : l ≠ []) (h2 : l.length ≤ 19) (h3 : ¬ (1 < l.length ∧ l.head? = some 48)) (h4 : l.all isD = true) : toNum l bound = if bound < val l then none else some (val l) :=
  if_neg (by simp only [not_or]; exact ⟨h1, by omega, h3, by rw [h4]; simp⟩)
end Dig
/-- What ToNumber tells. -/
def NumV (l : List UInt8) (bound : Nat) : Value := match Dig.toNum l bound with
  | some n => .tuple #[.int .u64 n, .bool true]
  | none => .tuple #[.int .u64 0, .bool false]
theorem NumV.no {l : List UInt8} {bound : Nat} (h : Dig.toNum l bound = none) : NumV l bound = .tuple #[.int .u64 0, .bool false] := by unfold NumV; rw [h]
theorem NumV.yes {l : List UInt8} {bound n : Nat} (h : Dig.toNum l bound = some n) : NumV l bound = .tuple #[.int .u64 n, .bool true] := by unfold NumV; rw [h]
end Go.Proofs.YtpkonagjnfphkaaGreatDoor

namespace Go.Proofs.YtpkonagjnfphkaaGreatDoor
open Go.RowKit
set_option linter.unusedSimpArgs false
set_option linter.unusedVariables false
namespace Dig
def parseP (l : List UInt8) : (Nat × Nat) × Int := if 100 < l.length then ((0, 0), 3) else match endP l with | some p => (p, 0) | none => ((0, 0), 130)
end Dig
/-- What Parse tells. -/
def ParE (l : List UInt8) (w : World) (en : Ending) (w' : World) : Prop := Below w.heap.size w w' ∧ en = .returned (.tuple #[.agg #[.int .u32 (Dig.parseP l).1.1, .int .u32 (Dig.parseP l).1.2], .int .i64 (Dig.parseP l).2])
end Go.Proofs.YtpkonagjnfphkaaGreatDoor
