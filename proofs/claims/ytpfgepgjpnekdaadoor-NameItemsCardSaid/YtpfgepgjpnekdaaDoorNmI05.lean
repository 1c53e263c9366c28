/-
  OctetB: several texts in one (bundle.py).
-/
import Derived.Test.YtpfgepgjpnekdaaDoorNmI04
import Derived.Laws.Bits64b
namespace Go.Proofs.YtpfgepgjpnekdaaDoor
open Go.RowKit
set_option linter.unusedSimpArgs false
set_option linter.unusedVariables false

theorem slT_u8 : SlT Tryd.prog 45 5 1 1 := SlT.mk' Tryd.underlying45 (z := .int .u8 0) (by kernel_rfl) rfl (by decide)

/-! ### The plain law: a number's bytes, highest ahead -/
namespace Oct
def beB : Nat → Int → List UInt8
  | 0, _ => []
  | k + 1, n => beB k (n / 256) ++ [UInt8.ofNat (n % 256).toNat]
theorem beB_len (k : Nat) (n : Int) : (beB k n).length = k := by
  induction k generalizing n with
  | zero => rfl
  | succ k ih => simp [beB, ih]
/-- The number of bytes. -/
def beV (l : List UInt8) : Int := l.foldl (fun a b => a * 256 + (b.toNat : Int)) 0
theorem beV_snoc (l : List UInt8) (b : UInt8) : beV (l ++ [b]) = beV l * 256 + (b.toNat : Int) := by simp [beV]
theorem byte_mod (n : Int) : ((UInt8.ofNat (n % 256).toNat).toNat : Int) = n % 256 := by
  simp only [UInt8.toNat_ofNat']
  omega
theorem beV_lo (l : List UInt8) : 0 ≤ beV l := by
  suffices ∀ (a : Int), 0 ≤ a → 0 ≤ l.foldl (fun a b => a * 256 + (b.toNat : Int)) a from this 0 (by decide)
  induction l with
  | nil => intro a h; exact h
  | cons b l ih => intro a h; exact ih _ (by show 0 ≤ a * 256 + (b.toNat : Int); omega)
theorem beV_hi (l : List UInt8) : beV l < 256 ^ l.length := by
  suffices ∀ (l : List UInt8) (a : Int), 0 ≤ a → l.foldl (fun a b => a * 256 + (b.toNat : Int)) a < (a + 1) * 256 ^ l.length by
    have := this l 0 (by decide); simpa [beV] using this
  intro l
  induction l with
  | nil => intro a h; simp; omega
  | cons b l ih =>
    intro a h
    have hb : (b.toNat : Int) < 256 := by have := b.toNat_lt; omega
    have := ih (a * 256 + (b.toNat : Int)) (by omega)
    refine Int.lt_of_lt_of_le this ?_
    rw [List.length_cons, Int.pow_succ, Int.mul_comm (256 ^ l.length) 256, ← Int.mul_assoc]
    refine Int.mul_le_mul_of_nonneg_right (by omega) ?_
    exact Int.le_of_lt (Int.pow_pos (by decide))
theorem beV_beB (k : Nat) (n : Int) (h0 : 0 ≤ n) (h1 : n < 256 ^ k) : beV (beB k n) = n := by
  induction k generalizing n with
  | zero => simp [beB, beV]; simp at h1; omega
  | succ k ih =>
    rw [Int.pow_succ] at h1
    rw [beB, beV_snoc, byte_mod, ih (n / 256) (by omega) (by omega)]
    omega
theorem beB_beV (l : List UInt8) : beB l.length (beV l) = l := by
  suffices ∀ (k : Nat) (l : List UInt8), l.length = k → beB k (beV l) = l from this _ l rfl
  intro k
  induction k with
  | zero => intro l h; rw [List.eq_nil_of_length_eq_zero h]; rfl
  | succ k ih =>
    intro l h
    obtain ⟨l', b, rfl⟩ : ∃ l' b, l = l' ++ [b] := ⟨l.dropLast, l.getLast (by intro e; rw [e] at h; cases h), (List.dropLast_concat_getLast _).symm⟩
    have hl : l'.length = k := by simp at h; exact h
    have hb : (b.toNat : Int) < 256 := by have := b.toNat_lt; omega
    rw [beB, beV_snoc]
    have e1 : (beV l' * 256 + (b.toNat : Int)) / 256 = beV l' := by omega
    have e2 : ((beV l' * 256 + (b.toNat : Int)) % 256).toNat = b.toNat := by omega
    rw [e1, e2, ih l' hl]
    simp
/-- What Put answers: its bytes, its error. -/
def putB (n w : Int) : List UInt8 := if okW w && fitsB w n then beB w.toNat n else []
def putE (n w : Int) : Int := if okW w then (if fitsB w n then 0 else 4) else 2
end Oct

/-- One byte more, of a literal block. -/
theorem sl1 (w : World) (k : Nat) (hk : k = w.heap.size) (x : Value) (T : TypeId) : Sl (w.alloc (.cells #[x] T)) 1 (.slice (some ⟨k, 0, none⟩) 1 1) 1 [x] := by
  subst hk
  exact Sl.of_own (World.ownsRow_lit w #[x] 1 (size := 1) (e := T) (Nat.le_refl _) (by decide) rfl)

/-- A result that is bytes and an error. -/
def RetBy (base : Nat) (l : List UInt8) (er : Int) (w : World) (e : Ending) (w' : World) : Prop :=
  ∃ v, e = .returned (.tuple #[v, .int .i64 er]) ∧ w'.ownsRow base 5 1 v l.length (by8 l) ∧ Below w.heap.size w w'

theorem RetBy.of {base : Nat} {l l' : List UInt8} {er er' : Int} {v : Value} {w w' : World} (hl : l = l') (he : er = er') (ho : w'.ownsRow base 5 1 v l'.length (by8 l')) (hB : Below w.heap.size w w') :
    RetBy base l er w (.returned (.tuple #[v, .int .i64 er'])) w' := by subst hl he; exact ⟨v, rfl, ho, hB⟩

namespace Oct
def pre (wd j : Nat) (n : Int) : List UInt8 := beB j (n / 256 ^ (wd - j))
theorem pre_zero (wd : Nat) (n : Int) : pre wd 0 n = [] := rfl
theorem pre_succ (wd j : Nat) (n : Int) (h : j < wd) : pre wd (j + 1) n = pre wd j n ++ [UInt8.ofNat (n / 256 ^ (wd - (j + 1)) % 256).toNat] := by
  unfold pre
  rw [beB]
  congr 2
  rw [Int.ediv_ediv_of_nonneg (Int.le_of_lt (Int.pow_pos (by decide))), ← Int.pow_succ]
  congr 2
  omega
theorem pre_all (wd : Nat) (n : Int) : pre wd wd n = beB wd n := by unfold pre; simp
theorem pre_len (wd j : Nat) (n : Int) : (pre wd j n).length = j := beB_len _ _
/-- The bytes grow by one: in the cells. -/
theorem pre_cells (wd j : Nat) (n m : Int) (h : j < wd) (hm : n / 256 ^ (wd - (j + 1)) % 256 = m) : by8 (pre wd j n) ++ [.int .u8 m] = by8 (pre wd (j + 1) n) := by
  rw [pre_succ wd j n h, by8_app]
  congr 1
  simp only [by8, List.map_cons, List.map_nil]
  rw [byte_mod, hm]
end Oct

namespace Oct
theorem fitsB_lt {wd n : Int} (hf : fitsB wd n = true) : n < 256 ^ wd.toNat := by simpa [fitsB] using hf
end Oct
end Go.Proofs.YtpfgepgjpnekdaaDoor
