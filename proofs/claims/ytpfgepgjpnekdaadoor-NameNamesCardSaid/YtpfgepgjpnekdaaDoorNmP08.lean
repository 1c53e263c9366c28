/-
  OctetD: several texts in one (bundle.py).
-/
import Derived.Test.YtpfgepgjpnekdaaDoorNmP07
namespace Go.Proofs.YtpfgepgjpnekdaaDoor
open Go.RowKit
set_option linter.unusedSimpArgs false
set_option linter.unusedVariables false

namespace Oct
def getV (l : List UInt8) : Int := if okW l.length then beV l else 0
def getE (l : List UInt8) : Int := if okW l.length then 0 else 2
theorem take_snoc (l : List UInt8) (k : Nat) (h : k < l.length) : l.take (k + 1) = l.take k ++ [l[k]] := by rw [List.take_succ_eq_append_getElem h]
theorem beV_take (l : List UInt8) (k : Nat) (h : k < l.length) : beV (l.take (k + 1)) = beV (l.take k) * 256 + (l[k].toNat : Int) := by rw [take_snoc l k h, beV_snoc]
theorem pow_mono {a b : Nat} (h : a ≤ b) : (256 : Int) ^ a ≤ 256 ^ b := by
  have := Int.ofNat_le.2 (Nat.pow_le_pow_right (show 0 < 256 by decide) h)
  rw [Int.natCast_pow, Int.natCast_pow] at this
  exact this
theorem beV_take_b (l : List UInt8) (k : Nat) (hk : k ≤ 8) : 0 ≤ beV (l.take k) ∧ (k < 8 → beV (l.take k) < 72057594037927936) ∧ beV (l.take k) < 18446744073709551616 := by
  have h0 := beV_lo (l.take k)
  have h1 := beV_hi (l.take k)
  have hl : (l.take k).length ≤ k := List.length_take_le _ _
  refine ⟨h0, fun h => ?_, ?_⟩
  · have := pow_mono (show (l.take k).length ≤ 7 by omega)
    have e : (256 : Int) ^ 7 = 72057594037927936 := by decide
    omega
  · have := pow_mono (show (l.take k).length ≤ 8 by omega)
    have e : (256 : Int) ^ 8 = 18446744073709551616 := by decide
    omega
end Oct
theorem or_byte (x c : Int) (hx0 : 0 ≤ x) (hx : x < 72057594037927936) (hc0 : 0 ≤ c) (hc : c < 256) : bits BinOp.or IntKind.u64 (x * 256) c = x * 256 + c := by
  have h := bits_or_u64_nat (x * 256).toNat c.toNat (by omega) (by omega)
  rw [Int.toNat_of_nonneg (by omega), Int.toNat_of_nonneg hc0] at h
  rw [h]
  have e : (x * 256).toNat = x.toNat <<< 8 := by rw [Nat.shiftLeft_eq]; omega
  rw [e, ← Nat.shiftLeft_add_eq_or_of_lt (by omega : c.toNat < 2 ^ 8), Nat.shiftLeft_eq]
  omega

namespace Oct
/-- The width that is looked at in round k of the reference's Least. -/
def w3 (k : Nat) : Int := match k with | 0 => 1 | 1 => 2 | _ => 4
theorem putE_small (n wd : Int) (hw : okW wd = true) : putE n wd = if fitsB wd n then 0 else 4 := by unfold putE; rw [hw]; rfl
end Oct

end Go.Proofs.YtpfgepgjpnekdaaDoor
