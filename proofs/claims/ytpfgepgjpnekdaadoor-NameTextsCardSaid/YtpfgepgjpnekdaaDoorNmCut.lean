/-
  Cutting a text at a byte: plain laws. A rune below 128 is its byte; no byte of another rune is below 128.
-/
import Derived.Test.YtpfgepgjpnekdaaDoorNmDig
import Derived.Lib.DecodeN
namespace Go.Proofs.YtpfgepgjpnekdaaDoor
open Go.Lib
namespace Dig
theorem decN_cases (n b0 b1 b2 b3 : Nat) : (b0 < 128 ∧ decodeN n b0 b1 b2 b3 = (b0, 1)) ∨ (128 ≤ b0 ∧ ∃ d, decodeN n b0 b1 b2 b3 = d ∧ 128 ≤ d.1 ∧ 1 ≤ d.2 ∧ d.2 ≤ 4 ∧ (1 < d.2 → 1 < n ∧ 128 ≤ b1) ∧ (2 < d.2 → 2 < n ∧ 128 ≤ b2) ∧ (3 < d.2 → 3 < n ∧ 128 ≤ b3)) := by
  unfold decodeN
  by_cases h : b0 < 128
  · exact .inl ⟨h, by rw [if_pos h]⟩
  · refine .inr ⟨by omega, _, rfl, ?_⟩
    rw [if_neg h]
    repeat' split
    all_goals (dsimp only; omega)
theorem get!_lt (s : ByteArray) (p : Nat) (h : p < s.size) : s.get! p = s.data.toList[p]'(by simpa using h) := by
  show s.data[p]! = _
  rw [getElem!_pos s.data p h]
  simp
/-- The rune at a place is the byte there, if one of both is below 128; else all its bytes are not. -/
theorem dec_cases (s : ByteArray) (p : Nat) (hp : p < s.size) : ∃ c k, Utf8.decode s p = (c, k) ∧ 1 ≤ k ∧ p + k ≤ s.size ∧
    ((c < 128 ∧ k = 1 ∧ (s.get! p).toNat = c) ∨ (128 ≤ c ∧ ∀ j, p ≤ j → j < p + k → 128 ≤ (s.get! j).toNat)) := by
  rw [decode_at]
  rcases decN_cases (s.size - p) (s.get! p).toNat (s.get! (p + 1)).toNat (s.get! (p + 2)).toNat (s.get! (p + 3)).toNat with ⟨h, e⟩ | ⟨h, d, e, h1, h2, h3, h4, h5, h6⟩
  · exact ⟨_, _, e, Nat.le_refl _, hp, .inl ⟨h, rfl, rfl⟩⟩
  · refine ⟨d.1, d.2, e, h2, ?_, .inr ⟨h1, fun j hj1 hj2 => ?_⟩⟩
    · rcases Nat.lt_or_ge 3 d.2 with g | g
      · have := h6 g; omega
      · rcases Nat.lt_or_ge 2 d.2 with g | g
        · have := h5 g; omega
        · rcases Nat.lt_or_ge 1 d.2 with g | g
          · have := h4 g; omega
          · omega
    · have hj : j = p ∨ j = p + 1 ∨ j = p + 2 ∨ j = p + 3 := by omega
      rcases hj with rfl | rfl | rfl | rfl
      · exact h
      · exact (h4 (by omega)).2
      · exact (h5 (by omega)).2
      · exact (h6 (by omega)).2
/-- A text ahead of, and behind, the first byte that is such. -/
def cut (c : UInt8) : List UInt8 → Option (List UInt8 × List UInt8)
  | [] => none
  | d :: l => if d = c then some ([], l) else (cut c l).map fun p => (d :: p.1, p.2)
theorem cut_at (c : UInt8) : ∀ (l : List UInt8) (k : Nat) (hk : k < l.length), (∀ j (h : j < l.length), j < k → l[j] ≠ c) → l[k] = c → cut c l = some (l.take k, l.drop (k + 1))
  | d :: l, 0, _, _, h => by
    have : d = c := h
    rw [cut, if_pos this]; rfl
  | d :: l, k + 1, hk, h0, h => by
    have hd : d ≠ c := h0 0 (by simp) (by omega)
    have := cut_at c l k (by simpa using hk) (fun j hj hlt => by have := h0 (j + 1) (by simpa using hj) (by omega); simpa using this) (by simpa using h)
    rw [cut, if_neg hd, this]; rfl
theorem cut_none (c : UInt8) : ∀ (l : List UInt8), (∀ j (h : j < l.length), l[j] ≠ c) → cut c l = none
  | [], _ => rfl
  | d :: l, h => by
    have hd : d ≠ c := h 0 (by simp)
    rw [cut, if_neg hd, cut_none c l (fun j hj => by have := h (j + 1) (by simpa using hj); simpa using this)]; rfl
theorem cut_some {c : UInt8} : ∀ {l a b : List UInt8}, cut c l = some (a, b) → l = a ++ c :: b ∧ c ∉ a
  | [], _, _, h => by cases h
  | d :: l, a, b, h => by
    rw [cut] at h
    split at h
    · rename_i e
      simp only [Option.some.injEq, Prod.mk.injEq] at h
      obtain ⟨rfl, rfl⟩ := h
      exact ⟨by rw [e]; rfl, by simp⟩
    · rename_i e
      obtain ⟨⟨p, q⟩, hp, h2⟩ := Option.map_eq_some_iff.1 h
      simp only [Prod.mk.injEq] at h2
      obtain ⟨rfl, rfl⟩ := h2
      obtain ⟨h3, h4⟩ := cut_some hp
      refine ⟨by rw [h3]; rfl, ?_⟩
      simp only [List.mem_cons, not_or]
      exact ⟨fun h => e h.symm, h4⟩
theorem cut_mk {c : UInt8} : ∀ {a b : List UInt8}, c ∉ a → cut c (a ++ c :: b) = some (a, b)
  | [], b, _ => by simp [cut]
  | d :: a, b, h => by
    simp only [List.mem_cons, not_or] at h
    rw [List.cons_append, cut, if_neg (fun e => h.1 e.symm), cut_mk h.2]; rfl
end Dig
end Go.Proofs.YtpfgepgjpnekdaaDoor
