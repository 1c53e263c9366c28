/-
  NmTx: several texts in one (bundle.py).
-/
import Derived.Test.YtpkonagjnfphkaaGreatDoorPmB19
import Derived.Test.YtpkonagjnfphkaaGreatDoorPmB20
import Derived.Test.YtpkonagjnfphkaaGreatDoorPmB21
namespace Go.Proofs.YtpkonagjnfphkaaGreatDoor
open Go.RowKit Trc
set_option linter.unusedSimpArgs false
set_option linter.unusedVariables false
theorem bytes_append (a b : List UInt8) : (⟨a.toArray⟩ : ByteArray) ++ ⟨b.toArray⟩ = ⟨(a ++ b).toArray⟩ := by
  apply ByteArray.ext
  rw [ByteArray.data_append]
  simp
theorem run_cat (a b : List UInt8) (hl : a.length + b.length ≤ 9223372036854775807) (w : World) : (binOp .add 9 (strV a) (strV b)).run Tryz.prog w = .ok (strV (a ++ b)) w := by
  go_simp
  rw [if_neg (by simp; omega), bytes_append]
/-- One text behind another one. -/
def jn (a b : List UInt8) : List UInt8 := a ++ b
theorem jn_len (a b : List UInt8) : (jn a b).length = a.length + b.length := List.length_append
theorem pt_cat {O : Nat → Prop} {ops : Array Oper} {Q : Exit → Act → World → Prop} {i : Nat} {o : Oper} {t : Pt} {f : Act} {w : World} (hi : ops[i]? = some o) (hw : Region.wanted o (yielded ops f.tmps) = true) (x y : Operand) (ho : o.op = .binOp .add 9 x y 9)
    (a b : List UInt8) (hx : f.eval x = strV a) (hy : f.eval y = strV b) (hl : a.length + b.length ≤ 9223372036854775807) (h : wpPt Tryz.prog O ops Q t (f.put o.dst (strV (jn a b))) w) : wpPt Tryz.prog O ops Q (.q i t) f w :=
  pt_q hi hw (fun w' _ => by unfold execOp; simp only [ho, hx, hy, eqGuard, Sem.run_bind, Sem.run_pure, Result.andThen_ok, Bool.not_false, if_true, run_cat a b hl w', apply_ite, ite_self]; try rfl) h
theorem dec_len (u : Nat) (h : u < 18446744073709551616) : (Lib.decDigits u).length ≤ 20 := by
  by_cases h0 : u = 0
  · subst h0
    rw [Lib.decDigits, dif_pos (by decide)]
    simp
  · rw [Lib.decDigits_length]
    have := Lib.numDigits_eq u (by omega) h
    split at this <;> omega
namespace Dig
/-- An endpoint's text. -/
def toldP (n m : Nat) : List UInt8 := if n = 0 then nobodyL else ipnL ++ Lib.decDigits n ++ [46] ++ Lib.decDigits m
/-- A name's text. -/
def nameT (n m t s : Nat) : List UInt8 := toldP n m ++ [32] ++ Lib.decDigits t ++ [32] ++ Lib.decDigits s
theorem told_len (n m : Nat) (hn : n < 4294967296) (hm : m < 4294967296) : (toldP n m).length ≤ 45 := by
  have := dec_len n (by omega)
  have := dec_len m (by omega)
  unfold toldP
  split
  · decide
  · simp only [List.length_append, ipnL, List.length_cons, List.length_nil]; omega
def chkP (n m : Nat) : Int := if n = 0 ∧ m ≠ 0 then 2 else 0
def chkN (n t : Nat) : Int := if n = 0 ∨ 4611686018427387903 < t then 2 else 0
end Dig
abbrev epV (n m : Nat) : Value := .agg #[.int .u32 n, .int .u32 m]
abbrev nmW (n m t s : Nat) : Value := nmV ⟨n, m, t, s⟩
set_option maxRecDepth 100000 in
theorem check_cN (n m : Nat) (w : World) : Calls Tryz.prog 53 #[epV n m] w (Ret (.int .i64 (Dig.chkP n m)) w) := by
  by_cases h : n = 0
  · subst h
    by_cases hm : m = 0
    · subst hm
      go_enter Tryz.func53, Tryz.ntmps53
      go_wp2
      go_ret
      exact ⟨rfl, below_alloc _ _⟩
    · have hd : (((m : Int)) != 0) = true := by simp; omega
      rw [show Dig.chkP 0 m = 2 from if_pos ⟨rfl, hm⟩]
      go_enter Tryz.func53, Tryz.ntmps53
      go_wp2
      go_ret
      exact ⟨rfl, below_alloc _ _⟩
  · have hd : (((n : Int)) == 0) = false := by simp; omega
    rw [show Dig.chkP n m = 0 from if_neg (fun e => h e.1)]
    go_enter Tryz.func53, Tryz.ntmps53
    go_wp2
    go_ret
    exact ⟨rfl, below_alloc _ _⟩
set_option maxRecDepth 100000 in
theorem checkName_cN (n m t s : Nat) (w : World) : Calls Tryz.prog 34 #[nmW n m t s] w (Ret (.int .i64 (Dig.chkN n t)) w) := by
  by_cases h : n = 0
  · subst h
    rw [show Dig.chkN 0 t = 2 from if_pos (.inl rfl)]
    go_enter Tryz.func34, Tryz.ntmps34
    go_wp2
    go_ret
    exact ⟨rfl, below_alloc _ _⟩
  · have hd : (((n : Int)) == 0) = false := by simp; omega
    by_cases ht : 4611686018427387903 < t
    · have hd2 : decide ((4611686018427387903 : Int) < (t : Int)) = true := decide_eq_true (by omega)
      rw [show Dig.chkN n t = 2 from if_pos (.inr ht)]
      go_enter Tryz.func34, Tryz.ntmps34
      go_wp2
      go_ret
      exact ⟨rfl, below_alloc _ _⟩
    · have hd2 : decide ((4611686018427387903 : Int) < (t : Int)) = false := decide_eq_false (by omega)
      rw [show Dig.chkN n t = 0 from if_neg (fun e => by rcases e with e | e; exact h e; exact ht e)]
      go_enter Tryz.func34, Tryz.ntmps34
      go_wp2
      go_ret
      exact ⟨rfl, below_alloc _ _⟩
end Go.Proofs.YtpkonagjnfphkaaGreatDoor
