/-
  OctetC: several texts in one (bundle.py).
-/
import Derived.Test.YtpfgepgjpnekdaaDoorNmI05
namespace Go.Proofs.YtpfgepgjpnekdaaDoor
open Go.RowKit
set_option linter.unusedSimpArgs false
set_option linter.unusedVariables false

/-! ### The plain law: a row of bytes filled from behind -/
namespace Oct
/-- After j rounds: wd - j noughts, and the last j bytes. -/
def back (wd j : Nat) (n : Int) : List UInt8 := List.replicate (wd - j) 0 ++ beB j n
theorem beB_cons (k : Nat) (n : Int) : beB (k + 1) n = UInt8.ofNat (n / 256 ^ k % 256).toNat :: beB k n := by
  induction k generalizing n with
  | zero => simp [beB]
  | succ k ih =>
    rw [beB, ih (n / 256)]
    conv => rhs; rw [beB]
    rw [List.cons_append]
    congr 3
    rw [Int.ediv_ediv_of_nonneg (by decide), Int.mul_comm, ← Int.pow_succ]
theorem back_zero (wd : Nat) (n : Int) : back wd 0 n = List.replicate wd 0 := by simp [back, beB]
theorem back_all (wd : Nat) (n : Int) : back wd wd n = beB wd n := by simp [back]
theorem back_set (wd j : Nat) (n m : Int) (h : j < wd) (hm : n / 256 ^ j % 256 = m) : (by8 (back wd j n)).set (wd - 1 - j) (.int .u8 m) = by8 (back wd (j + 1) n) := by
  have e : wd - j = (wd - 1 - j) + 1 := by omega
  have e2 : wd - (j + 1) = wd - 1 - j := by omega
  unfold back
  rw [e, e2, beB_cons]
  generalize hk : wd - 1 - j = k
  have hb : by8 (List.replicate (k + 1) 0 ++ beB j n) = by8 (List.replicate k 0) ++ (.int .u8 0 :: by8 (beB j n)) := by
    rw [List.replicate_succ', List.append_assoc, by8_app]
    rfl
  rw [hb, List.set_append_right _ _ (by simp [by8_len]), by8_app]
  congr 1
  simp only [by8_len, List.length_replicate, Nat.sub_self, List.set_cons_zero]
  show _ :: by8 (beB j n) = Value.int .u8 (((UInt8.ofNat (n / 256 ^ j % 256).toNat).toNat : Nat) : Int) :: by8 (beB j n)
  rw [byte_mod, hm]
end Oct

end Go.Proofs.YtpfgepgjpnekdaaDoor
