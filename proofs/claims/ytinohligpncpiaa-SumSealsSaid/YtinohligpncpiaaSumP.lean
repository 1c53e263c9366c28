/-
  The plain law of sums: with one bit that is another one, bytes and their sum are not opened.
-/
import Derived.Test.YtinohligpncpiaaSumE
namespace Go.Proofs.Ytinohligpncpiaa
open Go.RowKit
set_option linter.unusedSimpArgs false
set_option linter.unusedVariables false
namespace Sum

/-- Halves and the word upon them are apart by the top bit. -/
theorem xor_top {M u a : Nat} (p : Nat) (hM : M = 2 ^ p) (hu : M ≤ u) (hu2 : u < 2 * M) (ha : a < M) : M ≤ a ^^^ u ∧ a ^^^ u < 2 * M := by
  subst hM
  have h1 : u.testBit p = true := by
    rw [Nat.testBit_eq_decide_div_mod_eq, decide_eq_true_eq]
    have : u / 2 ^ p = 1 := by
      rw [Nat.div_eq_iff (Nat.two_pow_pos p)]
      have := Nat.two_pow_pos p
      omega
    rw [this]
  have h2 : a.testBit p = false := Nat.testBit_lt_two_pow ha
  have h3 : (a ^^^ u).testBit p = true := by rw [Nat.testBit_xor, h1, h2]; rfl
  refine ⟨?_, ?_⟩
  · exact Nat.le_of_not_lt fun h => by rw [Nat.testBit_lt_two_pow h] at h3; cases h3
  · rw [show 2 * 2 ^ p = 2 ^ (p + 1) by rw [Nat.pow_succ, Nat.mul_comm]]
    exact Nat.xor_lt_two_pow (by rw [Nat.pow_succ]; omega) (by rw [Nat.pow_succ]; omega)

theorem xor_inj {a b u : Nat} (h : a ^^^ u = b ^^^ u) : a = b := by
  have := congrArg (· ^^^ u) h
  simpa [Nat.xor_assoc] using this

structure Top (u M : Nat) : Prop where
  p : ∃ p, M = 2 ^ p
  lo : M ≤ u
  hi : u < 2 * M

theorem stepN_in {u M n b : Nat} (h : Top u M) (hn : n < 2 * M) : stepN u n b < 2 * M := by
  obtain ⟨p, hp⟩ := h.p
  unfold stepN
  split
  · omega
  · exact (xor_top p hp h.lo h.hi (by omega)).2
theorem stepN_inj {u M n m b : Nat} (h : Top u M) (hn : n < 2 * M) (hm : m < 2 * M) (e : stepN u n b = stepN u m b) : n = m := by
  obtain ⟨p, hp⟩ := h.p
  have x1 := xor_top p hp h.lo h.hi (a := n / 2) (by omega)
  have x2 := xor_top p hp h.lo h.hi (a := m / 2) (by omega)
  unfold stepN at e
  split at e <;> split at e
  · omega
  · omega
  · omega
  · have := xor_inj e; omega
theorem stepN_bit {u M n b c : Nat} (h : Top u M) (hn : n < 2 * M) (hbc : b % 2 ≠ c % 2) : stepN u n b ≠ stepN u n c := by
  obtain ⟨p, hp⟩ := h.p
  have x1 := xor_top p hp h.lo h.hi (a := n / 2) (by omega)
  intro e
  unfold stepN at e
  split at e <;> split at e <;> omega

theorem bitsTo_in {u M n c : Nat} (h : Top u M) (hn : n < 2 * M) : ∀ k, bitsTo u n c k < 2 * M
  | 0 => hn
  | k + 1 => stepN_in h (bitsTo_in h hn k)
theorem bitsTo_inj {u M n m c : Nat} (h : Top u M) (hn : n < 2 * M) (hm : m < 2 * M) : ∀ k, bitsTo u n c k = bitsTo u m c k → n = m
  | 0, e => e
  | k + 1, e => bitsTo_inj h hn hm k (stepN_inj h (bitsTo_in h hn k) (bitsTo_in h hm k) e)
theorem byteN_in {u M n c : Nat} (h : Top u M) (hn : n < 2 * M) : byteN u n c < 2 * M := bitsTo_in h hn 8
theorem byteN_inj {u M n m c : Nat} (h : Top u M) (hn : n < 2 * M) (hm : m < 2 * M) (e : byteN u n c = byteN u m c) : n = m := bitsTo_inj h hn hm 8 e

/-- Just one of the bits is another one. -/
def OneBit (c d : Nat) : Prop := ∃ j, j < 8 ∧ ∀ i, i < 8 → (c / 2 ^ i % 2 = d / 2 ^ i % 2 ↔ i ≠ j)
theorem stepN_cong {u n b c : Nat} (h : b % 2 = c % 2) : stepN u n b = stepN u n c := by unfold stepN; rw [h]
theorem bitsTo_bit {u M n c d j : Nat} (h : Top u M) (hn : n < 2 * M) (hj : ∀ i, i < 8 → (c / 2 ^ i % 2 = d / 2 ^ i % 2 ↔ i ≠ j)) :
    ∀ k, k ≤ 8 → (k ≤ j → bitsTo u n c k = bitsTo u n d k) ∧ (j < k → bitsTo u n c k ≠ bitsTo u n d k)
  | 0, _ => ⟨fun _ => rfl, fun h => by omega⟩
  | k + 1, hk => by
    obtain ⟨i1, i2⟩ := bitsTo_bit h hn hj k (by omega)
    have hb := hj k (by omega)
    refine ⟨fun hkj => ?_, fun hkj => ?_⟩
    · show stepN _ _ _ = stepN _ _ _
      rw [i1 (by omega), stepN_cong (hb.2 (by omega))]
    · show stepN _ _ _ ≠ stepN _ _ _
      by_cases e : k = j
      · rw [i1 (by omega)]
        exact stepN_bit h (bitsTo_in h hn k) fun x => hb.1 x e
      · rw [stepN_cong (hb.2 e)]
        exact fun x => i2 (by omega) (stepN_inj h (bitsTo_in h hn k) (bitsTo_in h hn k) x)
theorem byteN_bit {u M n c d : Nat} (h : Top u M) (hn : n < 2 * M) (ho : OneBit c d) : byteN u n c ≠ byteN u n d := by
  obtain ⟨j, h8, hj⟩ := ho
  exact (bitsTo_bit h hn hj 8 (Nat.le_refl _)).2 h8

theorem crcN_in {u M : Nat} (h : Top u M) : ∀ (l : List UInt8) {n : Nat}, n < 2 * M → crcN u n l < 2 * M
  | [], _, hn => hn
  | c :: l, _, hn => crcN_in h l (byteN_in h hn)
theorem crcN_inj {u M : Nat} (h : Top u M) : ∀ (l : List UInt8) {n m : Nat}, n < 2 * M → m < 2 * M → crcN u n l = crcN u m l → n = m
  | [], _, _, _, _, e => e
  | c :: l, _, _, hn, hm, e => byteN_inj h hn hm (crcN_inj h l (byteN_in h hn) (byteN_in h hm) e)
theorem crcN_bit {u M : Nat} (h : Top u M) : ∀ (l : List UInt8) {n : Nat} (i : Nat) (d : UInt8) (hi : i < l.length), n < 2 * M → OneBit l[i].toNat d.toNat → crcN u n l ≠ crcN u n (l.set i d)
  | c :: l, n, 0, d, _, hn, ho => fun e => byteN_bit h hn ho (crcN_inj h l (byteN_in h hn) (byteN_in h hn) e)
  | c :: l, n, i + 1, d, hi, hn, ho => crcN_bit h l i d (by simpa using hi) (byteN_in h hn) ho

theorem top_of {k : Nat} (hk : k = 1 ∨ k = 2) : ∃ M, Top (upon k) M ∧ all k < 2 * M ∧ 2 * M = 256 ^ wd k := by
  rcases hk with rfl | rfl
  · exact ⟨32768, ⟨⟨15, rfl⟩, by decide, by decide⟩, by decide, by decide⟩
  · exact ⟨2147483648, ⟨⟨31, rfl⟩, by decide, by decide⟩, by decide, by decide⟩
theorem sumN_bit {k : Nat} (hk : k = 1 ∨ k = 2) (l : List UInt8) (i : Nat) (d : UInt8) (hi : i < l.length) (ho : OneBit l[i].toNat d.toNat) : sumN k l ≠ sumN k (l.set i d) := by
  obtain ⟨M, hT, ha, _⟩ := top_of hk
  intro e
  unfold sumN at e
  rw [Nat.xor_comm, Nat.xor_comm (all k)] at e
  exact crcN_bit hT l i d hi ha ho (xor_inj e)
theorem sumN_in {k : Nat} (hk : k = 1 ∨ k = 2) (l : List UInt8) : sumN k l < 256 ^ wd k := by
  obtain ⟨M, hT, ha, hM⟩ := top_of hk
  obtain ⟨p, hp⟩ := hT.p
  rw [← hM]
  unfold sumN
  rw [show 2 * M = 2 ^ (p + 1) by rw [hp, Nat.pow_succ, Nat.mul_comm]] at *
  exact Nat.xor_lt_two_pow ha (by have := crcN_in hT l (n := all k) (by rw [show 2 * M = 2 ^ (p + 1) by rw [hp, Nat.pow_succ, Nat.mul_comm]]; exact ha); rw [show 2 * M = 2 ^ (p + 1) by rw [hp, Nat.pow_succ, Nat.mul_comm]] at this; exact this)
theorem one_bit (x : UInt8) {j : Nat} (hj : j < 8) : OneBit x.toNat (x.toNat ^^^ 2 ^ j) := by
  refine ⟨j, hj, fun i _ => ?_⟩
  have e : ∀ c : Nat, c / 2 ^ i % 2 = if c.testBit i then 1 else 0 := fun c => by
    rw [Nat.testBit_eq_decide_div_mod_eq]
    have : c / 2 ^ i % 2 < 2 := Nat.mod_lt _ (by decide)
    by_cases h : c / 2 ^ i % 2 = 1
    · rw [h]; rfl
    · rw [show c / 2 ^ i % 2 = 0 by omega]; rfl
  rw [e, e, Nat.testBit_xor, Nat.testBit_two_pow]
  by_cases h : j = i
  · subst h; cases x.toNat.testBit j <;> simp
  · simp [h]; exact fun e => h e.symm

theorem wd_ok {k : Nat} (hk : k ≤ 2) (h0 : k ≠ 0) : Oct.okW (wd k) = true := by
  rcases (show k = 1 ∨ k = 2 by omega) with rfl | rfl <;> rfl
theorem pow_up {a m : Nat} (h : a < 256 ^ m) : (a : Int) < 256 ^ m := by
  have : ((256 ^ m : Nat) : Int) = 256 ^ m := Int.natCast_pow 256 m
  rw [← this]
  exact Int.ofNat_lt.2 h
theorem put_all {k : Nat} (hk : k = 1 ∨ k = 2) (l : List UInt8) : Oct.putB (sumN k l) (wd k) = Oct.beB (wd k) (sumN k l) := by
  have h1 := wd_ok (k := k) (by omega) (by omega)
  have h2 : Oct.fitsB (wd k) (sumN k l) = true := by
    unfold Oct.fitsB
    rw [decide_eq_true_eq]
    have := sumN_in hk l
    rw [Int.toNat_natCast]
    exact pow_up this
  unfold Oct.putB
  rw [h1, h2, Int.toNat_natCast]
  rfl
theorem seal_len {k : Nat} (hk : k = 1 ∨ k = 2) (l : List UInt8) : (sealB k l).length = l.length + wd k := by
  unfold sealB
  rw [List.length_append, put_all hk, Oct.beB_len]
theorem cut_seal {k : Nat} (hk : k = 1 ∨ k = 2) (l : List UInt8) : cutB k (sealB k l) = l := by
  unfold cutB
  rw [seal_len hk, Nat.add_sub_cancel]
  unfold sealB
  simp
theorem open_seal {k : Nat} (hk : k = 1 ∨ k = 2) (l : List UInt8) : openB k (sealB k l) = true := by
  unfold openB
  rw [cut_seal hk, seal_len hk]
  simp
theorem open_flip {k : Nat} (hk : k = 1 ∨ k = 2) (l : List UInt8) (i : Nat) (d : UInt8) (hi : i < (sealB k l).length) (ho : OneBit ((sealB k l)[i]).toNat d.toNat) : openB k ((sealB k l).set i d) = false := by
  have hne : (sealB k l)[i] ≠ d := fun e => by
    obtain ⟨j, hj, h⟩ := ho
    rw [e] at h
    exact absurd rfl ((h j hj).1 rfl)
  have hsl := seal_len hk l
  cases hq : openB k ((sealB k l).set i d) with
  | false => rfl
  | true =>
    exfalso
    unfold openB at hq
    rw [Bool.and_eq_true, decide_eq_true_eq, decide_eq_true_eq] at hq
    have h2 := hq.2
    unfold cutB at h2
    rw [List.length_set, hsl, Nat.add_sub_cancel] at h2
    by_cases hil : i < l.length
    · have e1 : ((sealB k l).set i d) = (l.set i d) ++ Oct.putB (sumN k l) (wd k) := by
        unfold sealB; rw [List.set_append_left _ _ hil]
      have e2 : ((l.set i d) ++ Oct.putB (sumN k l) (wd k)).take l.length = l.set i d := by
        have h := List.take_left (l₁ := l.set i d) (l₂ := Oct.putB (sumN k l) (wd k)); rwa [List.length_set] at h
      rw [e1, e2] at h2
      unfold sealB at h2
      have h3 := List.append_cancel_left h2
      rw [put_all hk, put_all hk] at h3
      have hlt := fun l => sumN_in hk l
      have h4 := congrArg Oct.beV h3
      rw [Oct.beV_beB _ _ (Int.natCast_nonneg _) (pow_up (hlt _)), Oct.beV_beB _ _ (Int.natCast_nonneg _) (pow_up (hlt _))] at h4
      have e3 : (sealB k l)[i] = l[i] := by simp [sealB, List.getElem_append_left hil]
      rw [e3] at ho
      exact sumN_bit hk l i d hil ho (Int.ofNat.inj h4).symm
    · have e1 : ((sealB k l).set i d).take l.length = l := by
        rw [List.take_set_of_le (by omega)]
        unfold sealB; simp
      rw [e1] at h2
      have h3 := congrArg (fun m : List UInt8 => m[i]?) h2
      rw [List.getElem?_set_self (by omega), List.getElem?_eq_getElem hi] at h3
      exact hne (Option.some.inj h3)
end Sum
end Go.Proofs.Ytinohligpncpiaa
