/-
  NmDig: several texts in one (bundle.py).
-/
import Derived.Test.YtpfgepgjpnekdaaDoorNmO01
import Derived.Lib.ItoaNum
import Derived.Lib.AtoiAll
namespace Go.Proofs.YtpfgepgjpnekdaaDoor
namespace Dig
theorem snoc_ind {α : Type} {p : List α → Prop} (h0 : p []) (h1 : ∀ l c, p l → p (l ++ [c])) (l : List α) : p l := by
  have H : ∀ r : List α, p r.reverse := by
    intro r
    induction r with
    | nil => exact h0
    | cons c r ih => rw [List.reverse_cons]; exact h1 _ _ ih
  have := H l.reverse
  rwa [List.reverse_reverse] at this
/-- The number of digits, one behind the other. -/
def val (l : List UInt8) : Nat := l.foldl (fun n c => 10 * n + (c.toNat - 48)) 0
def isD (c : UInt8) : Bool := decide (48 ≤ c.toNat ∧ c.toNat ≤ 57)
theorem val_snoc (l : List UInt8) (c : UInt8) : val (l ++ [c]) = 10 * val l + (c.toNat - 48) := by simp [val]
theorem toNat_dig {k : Nat} (h : k < 10) : (UInt8.ofNat (48 + k)).toNat = 48 + k := by
  rw [UInt8.toNat_ofNat']; omega
theorem dig_ofNat {c : UInt8} (h : isD c = true) : UInt8.ofNat (48 + (c.toNat - 48)) = c := by
  simp only [isD, decide_eq_true_eq] at h
  rw [show 48 + (c.toNat - 48) = c.toNat by omega]
  simp
theorem val_dec (u : Nat) : val (Lib.decDigits u) = u := by
  induction u using Nat.strongRecOn with
  | ind u ih =>
    rw [Lib.decDigits]
    split
    · rename_i h
      simp only [val, List.foldl_cons, List.foldl_nil, toNat_dig h]; omega
    · rw [val_snoc, ih (u / 10) (by omega), toNat_dig (by omega)]; omega
theorem all_dec (u : Nat) : (Lib.decDigits u).all isD = true := by
  induction u using Nat.strongRecOn with
  | ind u ih =>
    rw [Lib.decDigits]
    split
    · rename_i h
      simp only [List.all_cons, List.all_nil, isD, toNat_dig h, Bool.and_true, decide_eq_true_eq]; omega
    · rw [List.all_append, ih (u / 10) (by omega)]
      simp only [List.all_cons, List.all_nil, isD, toNat_dig (Nat.mod_lt u (by decide : 0 < 10)), Bool.and_true, Bool.true_and, decide_eq_true_eq]; omega
theorem ne_dec (u : Nat) : Lib.decDigits u ≠ [] := by
  rw [Lib.decDigits]
  split <;> simp
/-- No zero stands ahead of another digit. -/
def lean (l : List UInt8) : Prop := l ≠ [] ∧ (1 < l.length → l.head? ≠ some 48)
theorem val_pos : ∀ (l : List UInt8), l ≠ [] → l.all isD = true → l.head? ≠ some 48 → 0 < val l := by
  intro l
  induction l using snoc_ind with
  | h0 => intro h; exact absurd rfl h
  | h1 l c ih =>
    intro _ ha hh
    rw [val_snoc]
    cases l with
    | nil =>
      have hc : isD c = true := by simpa using ha
      have hne : c ≠ 48 := fun e => hh (by rw [e]; rfl)
      simp only [isD, decide_eq_true_eq] at hc
      have : c.toNat ≠ 48 := fun e => hne (UInt8.toNat_inj.1 e)
      omega
    | cons d r =>
      have := ih (by simp) (by rw [List.all_append] at ha; exact (Bool.and_eq_true_iff.1 ha).1) (by simpa using hh)
      omega
/-- Digits with no zero ahead are the digits of their number. -/
theorem dec_val : ∀ (l : List UInt8), l.all isD = true → lean l → Lib.decDigits (val l) = l := by
  intro l
  induction l using snoc_ind with
  | h0 => intro _ h; exact absurd rfl h.1
  | h1 l c ih =>
    intro ha hl
    rw [List.all_append] at ha
    obtain ⟨ha1, ha2⟩ := Bool.and_eq_true_iff.1 ha
    have hc : isD c = true := by simpa using ha2
    have hcr := hc
    simp only [isD, decide_eq_true_eq] at hcr
    rw [val_snoc, Lib.decDigits]
    cases l with
    | nil =>
      rw [dif_pos (by simp [val]; omega)]
      simp only [val, List.foldl_nil, Nat.mul_zero, Nat.zero_add, dig_ofNat hc, List.nil_append]
    | cons d r =>
      have hh : (d :: r).head? ≠ some 48 := by have := hl.2 (by simp); simpa using this
      have hp := val_pos (d :: r) (by simp) ha1 hh
      rw [dif_neg (by omega), show (10 * val (d :: r) + (c.toNat - 48)) / 10 = val (d :: r) by omega, show (10 * val (d :: r) + (c.toNat - 48)) % 10 = c.toNat - 48 by omega, dig_ofNat hc, ih ha1 ⟨by simp, fun _ => hh⟩]
/-- .. and a number's digits have none. -/
theorem lean_dec (u : Nat) : lean (Lib.decDigits u) := by
  refine ⟨ne_dec u, ?_⟩
  induction u using Nat.strongRecOn with
  | ind u ih =>
    rw [Lib.decDigits]
    split
    · intro h; simp at h
    · intro _
      rename_i h
      by_cases h2 : u / 10 < 10
      · rw [Lib.decDigits, dif_pos h2]
        simp only [List.cons_append, List.nil_append, List.head?_cons, ne_eq, Option.some.injEq]
        intro e
        have := congrArg UInt8.toNat e
        rw [toNat_dig h2] at this
        have h48 : (48 : UInt8).toNat = 48 := rfl
        omega
      · have hlen : 1 < (Lib.decDigits (u / 10)).length := by
          rw [Lib.decDigits, dif_neg h2, List.length_append]
          have := List.length_pos_iff.2 (ne_dec (u / 10 / 10))
          simp; omega
        have := ih (u / 10) (by omega) hlen
        obtain ⟨x, r, hx⟩ := List.exists_cons_of_ne_nil (ne_dec (u / 10))
        rw [hx] at this ⊢
        simpa using this
def valA (a : Nat) (l : List UInt8) : Nat := l.foldl (fun n c => 10 * n + (c.toNat - 48)) a
theorem valA_ge : ∀ (l : List UInt8) (a : Nat), a ≤ valA a l
  | [], a => Nat.le_refl _
  | c :: l, a => Nat.le_trans (by omega) (valA_ge l (10 * a + (c.toNat - 48)))
theorem parse_ok : ∀ (l : List UInt8) (a : Nat), l.all isD = true → valA a l < 18446744073709551616 → Lib.parseUint10 a l = .ok (valA a l)
  | [], a, _, _ => rfl
  | c :: l, a, h, hv => by
    simp only [List.all_cons, Bool.and_eq_true] at h
    have hc := h.1
    simp only [isD, decide_eq_true_eq] at hc
    have hg := valA_ge l (10 * a + (c.toNat - 48))
    have hv' : valA (10 * a + (c.toNat - 48)) l < 18446744073709551616 := hv
    rw [Lib.parseUint10, if_pos hc, if_neg (by omega), if_neg (by omega), show a * 10 + (c.toNat - 48) = 10 * a + (c.toNat - 48) by omega]
    exact parse_ok l _ h.2 hv'
theorem parse_all : ∀ (l : List UInt8) (a n : Nat), Lib.parseUint10 a l = .ok n → l.all isD = true ∧ n = valA a l
  | [], a, n, h => by simp only [Lib.parseUint10, Lib.NumEnd.ok.injEq] at h; exact ⟨rfl, h.symm⟩
  | c :: l, a, n, h => by
    rw [Lib.parseUint10] at h
    split at h
    · rename_i hc
      split at h
      · cases h
      · split at h
        · cases h
        · have := parse_all l _ n h
          refine ⟨by simp only [List.all_cons, Bool.and_eq_true]; exact ⟨by simp only [isD, decide_eq_true_eq]; exact hc, this.1⟩, ?_⟩
          rw [this.2, show a * 10 + (c.toNat - 48) = 10 * a + (c.toNat - 48) by omega]
          rfl
    · cases h
/-- What the code asks of a number's text is what the document asks. -/
theorem bounded_iff (l : List UInt8) (bound n : Nat) (hb : bound < 18446744073709551616) :
    (Lib.parseMag l = .ok n ∧ n ≤ bound ∧ Lib.decDigits n = l) ↔ (l.all isD = true ∧ lean l ∧ val l ≤ bound ∧ n = val l) := by
  constructor
  · rintro ⟨h1, h2, rfl⟩
    exact ⟨all_dec n, lean_dec n, by rw [val_dec]; exact h2, (val_dec n).symm⟩
  · rintro ⟨h1, h2, h3, rfl⟩
    refine ⟨?_, h3, dec_val l h1 h2⟩
    unfold Lib.parseMag
    rw [if_neg h2.1]
    exact parse_ok l 0 h1 (Nat.lt_of_le_of_lt h3 hb)
theorem val_len : ∀ (l : List UInt8), l.all isD = true → lean l → 1 < l.length → 10 ^ (l.length - 1) ≤ val l := by
  intro l
  induction l using snoc_ind with
  | h0 => intro _ h; exact absurd rfl h.1
  | h1 l c ih =>
    intro ha hl hlen
    rw [List.all_append] at ha
    obtain ⟨ha1, ha2⟩ := Bool.and_eq_true_iff.1 ha
    cases l with
    | nil => simp at hlen
    | cons d r =>
      have hh : (d :: r).head? ≠ some 48 := by have := hl.2 hlen; simpa using this
      rw [val_snoc]
      simp only [List.length_append, List.length_cons, List.length_nil, Nat.add_sub_cancel]
      by_cases hr : 1 < (d :: r).length
      · have := ih ha1 ⟨by simp, fun _ => hh⟩ hr
        simp only [List.length_cons, Nat.add_sub_cancel] at this
        rw [Nat.pow_succ]
        omega
      · have hr0 : r.length = 0 := by simp only [List.length_cons] at hr; omega
        have := val_pos (d :: r) (by simp) ha1 hh
        rw [hr0]
        omega
/-- The document's reading of a number. -/
def toNum (l : List UInt8) (bound : Nat) : Option Nat :=
  if l = [] ∨ 19 < l.length ∨ (1 < l.length ∧ l.head? = some 48) ∨ l.all isD = false then none else if bound < val l then none else some (val l)
theorem toNum_iff (l : List UInt8) (bound n : Nat) (hb : bound < 10000000000000000000) : toNum l bound = some n ↔ (l.all isD = true ∧ lean l ∧ val l ≤ bound ∧ n = val l) := by
  unfold toNum
  constructor
  · intro h
    split at h
    · cases h
    · rename_i hc
      split at h
      · cases h
      · rename_i hv
        simp only [not_or, not_and, Bool.not_eq_false] at hc
        exact ⟨hc.2.2.2, ⟨hc.1, hc.2.2.1⟩, by omega, (Option.some.inj h).symm⟩
  · rintro ⟨h1, h2, h3, rfl⟩
    have hlen : ¬ 19 < l.length := fun h => by
      have h4 := val_len l h1 h2 (by omega)
      have h5 : 10 ^ 19 ≤ 10 ^ (l.length - 1) := Nat.pow_le_pow_right (by decide) (by omega)
      omega
    rw [if_neg (by
      simp only [not_or, not_and, Bool.not_eq_false]
      exact ⟨h2.1, hlen, h2.2, h1⟩), if_neg (by omega)]
end Dig
end Go.Proofs.YtpfgepgjpnekdaaDoor
