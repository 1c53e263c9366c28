/-
  NmRp: several texts in one (bundle.py).
-/
import Derived.Test.YtpkonagjnfphkaaGreatDoorPmB26
import Derived.Test.YtpkonagjnfphkaaGreatDoorPmB27
namespace Go.Proofs.YtpkonagjnfphkaaGreatDoor
open Go.RowKit Trc
set_option linter.unusedSimpArgs false
set_option linter.unusedVariables false
theorem cut_ex (c : UInt8) (l : List UInt8) : ∃ x1 x2 b, CutV c l = .tuple #[strV x1, strV x2, .bool b] ∧ x1.length ≤ l.length ∧ x2.length ≤ l.length ∧ (b = true → Dig.cut c l = some (x1, x2)) ∧ (b = false → Dig.cut c l = none) := by
  cases h : Dig.cut c l with
  | none => exact ⟨l, [], false, by unfold CutV; rw [h], Nat.le_refl _, by simp, (fun e => by cases e), fun _ => rfl⟩
  | some p =>
    obtain ⟨a, b⟩ := p
    have hl := congrArg List.length (Dig.cut_some h).1
    simp only [List.length_append, List.length_cons] at hl
    exact ⟨a, b, true, by unfold CutV; rw [h], by omega, by omega, fun _ => rfl, fun e => by cases e⟩
theorem num_ex (l : List UInt8) (bound : Nat) : ∃ n f, NumV l bound = .tuple #[.int .u64 ((n : Nat) : Int), .bool f] ∧ (f = true → Dig.toNum l bound = some n) ∧ (f = false → Dig.toNum l bound = none) := by
  cases h : Dig.toNum l bound with
  | none => exact ⟨0, false, NumV.no h, (fun e => by cases e), fun _ => rfl⟩
  | some n => exact ⟨n, true, NumV.yes h, (fun _ => rfl), fun e => by cases e⟩
/-- What parse tells. -/
def EpO (q : Option (Nat × Nat)) : Value := match q with
  | some p => .tuple #[epV p.1 p.2, .bool true]
  | none => .tuple #[.agg #[.int .u32 0, .int .u32 0], .bool false]
theorem ext_list (l : List UInt8) (k : Nat) : ((⟨l.toArray⟩ : ByteArray).extract 0 k).toList = l.take k := by
  rw [bytes_extract, ByteArray.toList_eq]
  simp
theorem ext_from (l : List UInt8) (k : Nat) : (⟨l.toArray⟩ : ByteArray).extract k l.length = ⟨(l.drop k).toArray⟩ := by
  rw [bytes_extract, List.take_length]
theorem rNobody_c (n m : Nat) (w : World) : Calls Tryz.prog 129 #[epV n m] w (Ret (.bool (decide (n = 0 ∧ m = 0))) w) := by
  by_cases h : n = 0
  · subst h
    by_cases hm : m = 0
    · subst hm
      rw [show decide ((0 : Nat) = 0 ∧ (0 : Nat) = 0) = true from rfl]
      go_enter Tryz.func129, Tryz.ntmps129
      go_wp2
      go_ret
      exact ⟨rfl, below_alloc _ _⟩
    · have hd : (((m : Int)) == 0) = false := by simp; omega
      rw [show decide ((0 : Nat) = 0 ∧ m = 0) = false from decide_eq_false (fun e => hm e.2)]
      go_enter Tryz.func129, Tryz.ntmps129
      go_wp2
      go_ret
      exact ⟨rfl, below_alloc _ _⟩
  · have hd : (((n : Int)) == 0) = false := by simp; omega
    rw [show decide (n = 0 ∧ m = 0) = false from decide_eq_false (fun e => h e.1)]
    go_enter Tryz.func129, Tryz.ntmps129
    go_wp2
    go_ret
    exact ⟨rfl, below_alloc _ _⟩
theorem ep_ex (q : Option (Nat × Nat)) : ∃ n m b, EpO q = .tuple #[epV n m, .bool b] ∧ (b = true → q = some (n, m)) ∧ (b = false → q = none) := by
  cases q with
  | none => exact ⟨0, 0, false, rfl, (fun e => by cases e), fun _ => rfl⟩
  | some p => exact ⟨p.1, p.2, true, rfl, (fun _ => rfl), fun e => by cases e⟩
abbrev ParV (l : List UInt8) : Value := .tuple #[epV (Dig.parseP l).1.1 (Dig.parseP l).1.2, .int .i64 (Dig.parseP l).2]
abbrev PnV (l : List UInt8) : Value := .tuple #[nmW (Dig.nameP l).1.n (Dig.nameP l).1.m (Dig.nameP l).1.t (Dig.nameP l).1.s, .int .i64 (Dig.nameP l).2]
end Go.Proofs.YtpkonagjnfphkaaGreatDoor
