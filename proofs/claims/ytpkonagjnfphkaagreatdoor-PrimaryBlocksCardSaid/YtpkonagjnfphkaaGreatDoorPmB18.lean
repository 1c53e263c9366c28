/-
  NmDig, NmCut, NmFmt, NmA, NmBd, NmUp: several texts in one (bundle.py).
-/
import Derived.Test.YtpkonagjnfphkaaGreatDoorPmB01
import Derived.Lib.ItoaNum
import Derived.Lib.AtoiAll
import Derived.Lib.DecodeN
import Derived.Test.YtpkonagjnfphkaaGreatDoorPmB17
import Derived.Test.YtpkonagjnfphkaaGreatDoorPmB02
import Derived.Lib.ItoaMem
import Derived.Lib.AppendIntMem
import Derived.BigCall
import Derived.BigGuard
import Derived.WalkLawsBesides
import Derived.Defers
import Derived.Recover
import Derived.Lib.Hide
import Derived.Test.YtpkonagjnfphkaaGreatDoorPmB05
import Derived.Lib.OthersKept
namespace Go.Proofs.YtpkonagjnfphkaaGreatDoor
namespace Dig
theorem snoc_ind {α : Type} {p : List α → Prop} (h0 : p []) (h1 : ∀ l c, p l → p (l ++ [c])) (l : List α) : p l := by
  have H : ∀ r : List α, p r.reverse := by
    intro r
    induction r with
    | nil => exact h0
    | cons c r ih => rw [List.reverse_cons]; exact h1 _ _ ih
  have := H l.reverse
  rwa [List.reverse_reverse] at this
/-- The number of digits, one behind the other. -/
def val (l : List UInt8) : Nat := l.foldl (fun n c => 10 * n + (c.toNat - 48)) 0
def isD (c : UInt8) : Bool := decide (48 ≤ c.toNat ∧ c.toNat ≤ 57)
theorem val_snoc (l : List UInt8) (c : UInt8) : val (l ++ [c]) = 10 * val l + (c.toNat - 48) := by simp [val]
theorem toNat_dig {k : Nat} (h : k < 10) : (UInt8.ofNat (48 + k)).toNat = 48 + k := by
  rw [UInt8.toNat_ofNat']; omega
theorem dig_ofNat {c : UInt8} (h : isD c = true) : UInt8.ofNat (48 + (c.toNat - 48)) = c := by
  simp only [isD, decide_eq_true_eq] at h
  rw [show 48 + (c.toNat - 48) = c.toNat by omega]
  simp
theorem val_dec (u : Nat) : val (Lib.decDigits u) = u := by
  induction u using Nat.strongRecOn with
  | ind u ih =>
    rw [Lib.decDigits]
    split
    · rename_i h
      simp only [val, List.foldl_cons, List.foldl_nil, toNat_dig h]; omega
    · rw [val_snoc, ih (u / 10) (by omega), toNat_dig (by omega)]; omega
theorem all_dec (u : Nat) : (Lib.decDigits u).all isD = true := by
  induction u using Nat.strongRecOn with
  | ind u ih =>
    rw [Lib.decDigits]
    split
    · rename_i h
      simp only [List.all_cons, List.all_nil, isD, toNat_dig h, Bool.and_true, decide_eq_true_eq]; omega
    · rw [List.all_append, ih (u / 10) (by omega)]
      simp only [List.all_cons, List.all_nil, isD, toNat_dig (Nat.mod_lt u (by decide : 0 < 10)), Bool.and_true, Bool.true_and, decide_eq_true_eq]; omega
theorem ne_dec (u : Nat) : Lib.decDigits u ≠ [] := by
  rw [Lib.decDigits]
  split <;> simp
/-- No zero stands ahead of another digit. -/
def lean (l : List UInt8) : Prop := l ≠ [] ∧ (1 < l.length → l.head? ≠ some 48)
theorem val_pos : ∀ (l : List UInt8), l ≠ [] → l.all isD = true → l.head? ≠ some 48 → 0 < val l := by
  intro l
  induction l using snoc_ind with
  | h0 => intro h; exact absurd rfl h
  | h1 l c ih =>
    intro _ ha hh
    rw [val_snoc]
    cases l with
    | nil =>
      have hc : isD c = true := by simpa using ha
      have hne : c ≠ 48 := fun e => hh (by rw [e]; rfl)
      simp only [isD, decide_eq_true_eq] at hc
      have : c.toNat ≠ 48 := fun e => hne (UInt8.toNat_inj.1 e)
      omega
    | cons d r =>
      have := ih (by simp) (by rw [List.all_append] at ha; exact (Bool.and_eq_true_iff.1 ha).1) (by simpa using hh)
      omega
/-- Digits with no zero ahead are the digits of their number. -/
theorem dec_val : ∀ (l : List UInt8), l.all isD = true → lean l → Lib.decDigits (val l) = l := by
  intro l
  induction l using snoc_ind with
  | h0 => intro _ h; exact absurd rfl h.1
  | h1 l c ih =>
    intro ha hl
    rw [List.all_append] at ha
    obtain ⟨ha1, ha2⟩ := Bool.and_eq_true_iff.1 ha
    have hc : isD c = true := by simpa using ha2
    have hcr := hc
    simp only [isD, decide_eq_true_eq] at hcr
    rw [val_snoc, Lib.decDigits]
    cases l with
    | nil =>
      rw [dif_pos (by simp [val]; omega)]
      simp only [val, List.foldl_nil, Nat.mul_zero, Nat.zero_add, dig_ofNat hc, List.nil_append]
    | cons d r =>
      have hh : (d :: r).head? ≠ some 48 := by have := hl.2 (by simp); simpa using this
      have hp := val_pos (d :: r) (by simp) ha1 hh
      rw [dif_neg (by omega), show (10 * val (d :: r) + (c.toNat - 48)) / 10 = val (d :: r) by omega, show (10 * val (d :: r) + (c.toNat - 48)) % 10 = c.toNat - 48 by omega, dig_ofNat hc, ih ha1 ⟨by simp, fun _ => hh⟩]
/-- .. and a number's digits have none. -/
theorem lean_dec (u : Nat) : lean (Lib.decDigits u) := by
  refine ⟨ne_dec u, ?_⟩
  induction u using Nat.strongRecOn with
  | ind u ih =>
    rw [Lib.decDigits]
    split
    · intro h; simp at h
    · intro _
      rename_i h
      by_cases h2 : u / 10 < 10
      · rw [Lib.decDigits, dif_pos h2]
        simp only [List.cons_append, List.nil_append, List.head?_cons, ne_eq, Option.some.injEq]
        intro e
        have := congrArg UInt8.toNat e
        rw [toNat_dig h2] at this
        have h48 : (48 : UInt8).toNat = 48 := rfl
        omega
      · have hlen : 1 < (Lib.decDigits (u / 10)).length := by
          rw [Lib.decDigits, dif_neg h2, List.length_append]
          have := List.length_pos_iff.2 (ne_dec (u / 10 / 10))
          simp; omega
        have := ih (u / 10) (by omega) hlen
        obtain ⟨x, r, hx⟩ := List.exists_cons_of_ne_nil (ne_dec (u / 10))
        rw [hx] at this ⊢
        simpa using this
def valA (a : Nat) (l : List UInt8) : Nat := l.foldl (fun n c => 10 * n + (c.toNat - 48)) a
theorem valA_ge : ∀ (l : List UInt8) (a : Nat), a ≤ valA a l
  | [], a => Nat.le_refl _
  | c :: l, a => Nat.le_trans (by omega) (valA_ge l (10 * a + (c.toNat - 48)))
theorem parse_ok : ∀ (l : List UInt8) (a : Nat), l.all isD = true → valA a l < 18446744073709551616 → Lib.parseUint10 a l = .ok (valA a l)
  | [], a, _, _ => rfl
  | c :: l, a, h, hv => by
    simp only [List.all_cons, Bool.and_eq_true] at h
    have hc := h.1
    simp only [isD, decide_eq_true_eq] at hc
    have hg := valA_ge l (10 * a + (c.toNat - 48))
    have hv' : valA (10 * a + (c.toNat - 48)) l < 18446744073709551616 := hv
    rw [Lib.parseUint10, if_pos hc, if_neg (by omega), if_neg (by omega), show a * 10 + (c.toNat - 48) = 10 * a + (c.toNat - 48) by omega]
    exact parse_ok l _ h.2 hv'
theorem parse_all : ∀ (l : List UInt8) (a n : Nat), Lib.parseUint10 a l = .ok n → l.all isD = true ∧ n = valA a l
  | [], a, n, h => by simp only [Lib.parseUint10, Lib.NumEnd.ok.injEq] at h; exact ⟨rfl, h.symm⟩
  | c :: l, a, n, h => by
    rw [Lib.parseUint10] at h
    split at h
    · rename_i hc
      split at h
      · cases h
      · split at h
        · cases h
        · have := parse_all l _ n h
          refine ⟨by simp only [List.all_cons, Bool.and_eq_true]; exact ⟨by simp only [isD, decide_eq_true_eq]; exact hc, this.1⟩, ?_⟩
          rw [this.2, show a * 10 + (c.toNat - 48) = 10 * a + (c.toNat - 48) by omega]
          rfl
    · cases h
/-- What the code asks of a number's text is what the document asks. -/
theorem bounded_iff (l : List UInt8) (bound n : Nat) (hb : bound < 18446744073709551616) :
    (Lib.parseMag l = .ok n ∧ n ≤ bound ∧ Lib.decDigits n = l) ↔ (l.all isD = true ∧ lean l ∧ val l ≤ bound ∧ n = val l) := by
  constructor
  · rintro ⟨h1, h2, rfl⟩
    exact ⟨all_dec n, lean_dec n, by rw [val_dec]; exact h2, (val_dec n).symm⟩
  · rintro ⟨h1, h2, h3, rfl⟩
    refine ⟨?_, h3, dec_val l h1 h2⟩
    unfold Lib.parseMag
    rw [if_neg h2.1]
    exact parse_ok l 0 h1 (Nat.lt_of_le_of_lt h3 hb)
theorem val_len : ∀ (l : List UInt8), l.all isD = true → lean l → 1 < l.length → 10 ^ (l.length - 1) ≤ val l := by
  intro l
  induction l using snoc_ind with
  | h0 => intro _ h; exact absurd rfl h.1
  | h1 l c ih =>
    intro ha hl hlen
    rw [List.all_append] at ha
    obtain ⟨ha1, ha2⟩ := Bool.and_eq_true_iff.1 ha
    cases l with
    | nil => simp at hlen
    | cons d r =>
      have hh : (d :: r).head? ≠ some 48 := by have := hl.2 hlen; simpa using this
      rw [val_snoc]
      simp only [List.length_append, List.length_cons, List.length_nil, Nat.add_sub_cancel]
      by_cases hr : 1 < (d :: r).length
      · have := ih ha1 ⟨by simp, fun _ => hh⟩ hr
        simp only [List.length_cons, Nat.add_sub_cancel] at this
        rw [Nat.pow_succ]
        omega
      · have hr0 : r.length = 0 := by simp only [List.length_cons] at hr; omega
        have := val_pos (d :: r) (by simp) ha1 hh
        rw [hr0]
        omega
/-- The document's reading of a number. -/
def toNum (l : List UInt8) (bound : Nat) : Option Nat :=
  if l = [] ∨ 19 < l.length ∨ (1 < l.length ∧ l.head? = some 48) ∨ l.all isD = false then none else if bound < val l then none else some (val l)
theorem toNum_iff (l : List UInt8) (bound n : Nat) (hb : bound < 10000000000000000000) : toNum l bound = some n ↔ (l.all isD = true ∧ lean l ∧ val l ≤ bound ∧ n = val l) := by
  unfold toNum
  constructor
  · intro h
    split at h
    · cases h
    · rename_i hc
      split at h
      · cases h
      · rename_i hv
        simp only [not_or, not_and, Bool.not_eq_false] at hc
        exact ⟨hc.2.2.2, ⟨hc.1, hc.2.2.1⟩, by omega, (Option.some.inj h).symm⟩
  · rintro ⟨h1, h2, h3, rfl⟩
    have hlen : ¬ 19 < l.length := fun h => by
      have h4 := val_len l h1 h2 (by omega)
      have h5 : 10 ^ 19 ≤ 10 ^ (l.length - 1) := Nat.pow_le_pow_right (by decide) (by omega)
      omega
    rw [if_neg (by
      simp only [not_or, not_and, Bool.not_eq_false]
      exact ⟨h2.1, hlen, h2.2, h1⟩), if_neg (by omega)]
end Dig
end Go.Proofs.YtpkonagjnfphkaaGreatDoor

namespace Go.Proofs.YtpkonagjnfphkaaGreatDoor
open Go.Lib
namespace Dig
theorem decN_cases (n b0 b1 b2 b3 : Nat) : (b0 < 128 ∧ decodeN n b0 b1 b2 b3 = (b0, 1)) ∨ (128 ≤ b0 ∧ ∃ d, decodeN n b0 b1 b2 b3 = d ∧ 128 ≤ d.1 ∧ 1 ≤ d.2 ∧ d.2 ≤ 4 ∧ (1 < d.2 → 1 < n ∧ 128 ≤ b1) ∧ (2 < d.2 → 2 < n ∧ 128 ≤ b2) ∧ (3 < d.2 → 3 < n ∧ 128 ≤ b3)) := by
  unfold decodeN
  by_cases h : b0 < 128
  · exact .inl ⟨h, by rw [if_pos h]⟩
  · refine .inr ⟨by omega, _, rfl, ?_⟩
    rw [if_neg h]
    repeat' split
    all_goals (dsimp only; omega)
theorem get!_lt (s : ByteArray) (p : Nat) (h : p < s.size) : s.get! p = s.data.toList[p]'(by simpa using h) := by
  show s.data[p]! = _
  rw [getElem!_pos s.data p h]
  simp
/-- The rune at a place is the byte there, if one of both is below 128; else all its bytes are not. -/
theorem dec_cases (s : ByteArray) (p : Nat) (hp : p < s.size) : ∃ c k, Utf8.decode s p = (c, k) ∧ 1 ≤ k ∧ p + k ≤ s.size ∧
    ((c < 128 ∧ k = 1 ∧ (s.get! p).toNat = c) ∨ (128 ≤ c ∧ ∀ j, p ≤ j → j < p + k → 128 ≤ (s.get! j).toNat)) := by
  rw [decode_at]
  rcases decN_cases (s.size - p) (s.get! p).toNat (s.get! (p + 1)).toNat (s.get! (p + 2)).toNat (s.get! (p + 3)).toNat with ⟨h, e⟩ | ⟨h, d, e, h1, h2, h3, h4, h5, h6⟩
  · exact ⟨_, _, e, Nat.le_refl _, hp, .inl ⟨h, rfl, rfl⟩⟩
  · refine ⟨d.1, d.2, e, h2, ?_, .inr ⟨h1, fun j hj1 hj2 => ?_⟩⟩
    · rcases Nat.lt_or_ge 3 d.2 with g | g
      · have := h6 g; omega
      · rcases Nat.lt_or_ge 2 d.2 with g | g
        · have := h5 g; omega
        · rcases Nat.lt_or_ge 1 d.2 with g | g
          · have := h4 g; omega
          · omega
    · have hj : j = p ∨ j = p + 1 ∨ j = p + 2 ∨ j = p + 3 := by omega
      rcases hj with rfl | rfl | rfl | rfl
      · exact h
      · exact (h4 (by omega)).2
      · exact (h5 (by omega)).2
      · exact (h6 (by omega)).2
/-- A text ahead of, and behind, the first byte that is such. -/
def cut (c : UInt8) : List UInt8 → Option (List UInt8 × List UInt8)
  | [] => none
  | d :: l => if d = c then some ([], l) else (cut c l).map fun p => (d :: p.1, p.2)
theorem cut_at (c : UInt8) : ∀ (l : List UInt8) (k : Nat) (hk : k < l.length), (∀ j (h : j < l.length), j < k → l[j] ≠ c) → l[k] = c → cut c l = some (l.take k, l.drop (k + 1))
  | d :: l, 0, _, _, h => by
    have : d = c := h
    rw [cut, if_pos this]; rfl
  | d :: l, k + 1, hk, h0, h => by
    have hd : d ≠ c := h0 0 (by simp) (by omega)
    have := cut_at c l k (by simpa using hk) (fun j hj hlt => by have := h0 (j + 1) (by simpa using hj) (by omega); simpa using this) (by simpa using h)
    rw [cut, if_neg hd, this]; rfl
theorem cut_none (c : UInt8) : ∀ (l : List UInt8), (∀ j (h : j < l.length), l[j] ≠ c) → cut c l = none
  | [], _ => rfl
  | d :: l, h => by
    have hd : d ≠ c := h 0 (by simp)
    rw [cut, if_neg hd, cut_none c l (fun j hj => by have := h (j + 1) (by simpa using hj); simpa using this)]; rfl
theorem cut_some {c : UInt8} : ∀ {l a b : List UInt8}, cut c l = some (a, b) → l = a ++ c :: b ∧ c ∉ a
  | [], _, _, h => by cases h
  | d :: l, a, b, h => by
    rw [cut] at h
    split at h
    · rename_i e
      simp only [Option.some.injEq, Prod.mk.injEq] at h
      obtain ⟨rfl, rfl⟩ := h
      exact ⟨by rw [e]; rfl, by simp⟩
    · rename_i e
      obtain ⟨⟨p, q⟩, hp, h2⟩ := Option.map_eq_some_iff.1 h
      simp only [Prod.mk.injEq] at h2
      obtain ⟨rfl, rfl⟩ := h2
      obtain ⟨h3, h4⟩ := cut_some hp
      refine ⟨by rw [h3]; rfl, ?_⟩
      simp only [List.mem_cons, not_or]
      exact ⟨fun h => e h.symm, h4⟩
theorem cut_mk {c : UInt8} : ∀ {a b : List UInt8}, c ∉ a → cut c (a ++ c :: b) = some (a, b)
  | [], b, _ => by simp [cut]
  | d :: a, b, h => by
    simp only [List.mem_cons, not_or] at h
    rw [List.cons_append, cut, if_neg (fun e => h.1 e.symm), cut_mk h.2]; rfl
end Dig
end Go.Proofs.YtpkonagjnfphkaaGreatDoor

namespace Go.Proofs.YtpkonagjnfphkaaGreatDoor
open Go.RowKit Go.Sort Go.Lib
set_option linter.unusedSimpArgs false
set_option linter.unusedVariables false

abbrev strV (l : List UInt8) : Value := .string ⟨l.toArray⟩
theorem tab_up {P : Program} {w w' : World} {name : String} {k : IntKind} {zs : List Int} (h : Lib.TabIs P w name k zs) (hb : Below w.heap.size w w') : Lib.TabIs P w' name k zs := by
  unfold Lib.TabIs World.var? at *
  cases hg : P.globalNamed name with
  | none => simp [hg] at h
  | some g =>
    simp only [hg, Option.bind_some] at h ⊢
    cases hw : w.heap[g]? with
    | none => rw [hw] at h; cases h
    | some o =>
      rw [hb.block _ (Array.getElem?_eq_some_iff.1 hw).1]
      exact h
theorem fin_pos0 (w : World) (o : Obj) (dk : Array UInt8) (k : Nat) : ∃ os, (putRow (fun (b : UInt8) => Value.int .u8 (b.toNat : Int)) (w.alloc o) w.heap.size 0 dk).drewN k = grow (w.drewN k) os := by
  rw [alloc_eq_grow]
  obtain ⟨os', _, e⟩ := putRow_grow_new (fun (b : UInt8) => Value.int .u8 (b.toNat : Int)) w #[o] w.heap.size 0 dk (Nat.le_refl _)
  exact ⟨os', by rw [e]; rfl⟩
end Go.Proofs.YtpkonagjnfphkaaGreatDoor

namespace Go.Proofs.YtpkonagjnfphkaaGreatDoor
open Go.RowKit
set_option linter.unusedSimpArgs false
set_option linter.unusedVariables false

end Go.Proofs.YtpkonagjnfphkaaGreatDoor

namespace Go.Proofs.YtpkonagjnfphkaaGreatDoor
open Go.RowKit
set_option linter.unusedSimpArgs false
set_option linter.unusedVariables false

namespace Dig
theorem uintM_eq : ∀ (l : List UInt8) (a : Nat), Lib.parseUintM (2 ^ 64 - 1) a l = Lib.parseUint10 a l
  | [], a => rfl
  | c :: l, a => by
    rw [Lib.parseUintM, Lib.parseUint10, uintM_eq l]
    have e : (2 ^ 64 - 1 < a * 10 + (c.toNat - 48)) = (18446744073709551616 ≤ a * 10 + (c.toNat - 48)) := propext (by omega)
    simp only [e]
theorem uintB_eq (l : List UInt8) : Lib.parseUintB 64 l = Lib.parseMag l := by
  unfold Lib.parseUintB Lib.parseMag
  rw [uintM_eq]
theorem toNum_none {l : List UInt8} {bound : Nat} (hb : bound < 10000000000000000000) (h : ∀ n, ¬ (Lib.parseMag l = .ok n ∧ n ≤ bound ∧ Lib.decDigits n = l)) : toNum l bound = none := by
  cases hn : toNum l bound with
  | none => rfl
  | some n => exact absurd ((bounded_iff l bound n (by omega)).2 ((toNum_iff l bound n hb).1 hn)) (h n)
theorem toNum_some {l : List UInt8} {bound n : Nat} (hb : bound < 10000000000000000000) (h1 : Lib.parseMag l = .ok n) (h2 : n ≤ bound) (h3 : Lib.decDigits n = l) : toNum l bound = some n :=
  (toNum_iff l bound n hb).2 ((bounded_iff l bound n (by omega)).1 ⟨h1, h2, h3⟩)
theorem toNum_le {l : List UInt8} {bound n : Nat} (h : toNum l bound = some n) : n ≤ bound := by
  unfold toNum at h
  split at h
  · cases h
  · split at h
    · cases h
    · cases h; omega
end Dig
/-- What ParseUint tells of what is no number. -/
def NoNum (w : World) (en : Ending) (w' : World) : Prop := Below w.heap.size w w' ∧ ∃ (n : Int) (t : TypeId) (p : Addr), en = .returned (.tuple #[.int .u64 n, .iface t (.pointer (some p))])
/-- What bounded tells. -/
def Bdd (l : List UInt8) (bound : Nat) (w : World) (en : Ending) (w' : World) : Prop := Below w.heap.size w w' ∧ match Dig.toNum l bound with
  | some n => en = .returned (.int .u64 n)
  | none => en = .panicked (gup 130)
theorem Bdd.no {l : List UInt8} {bound : Nat} (hb : bound < 10000000000000000000) (h : ∀ n, ¬ (Lib.parseMag l = .ok n ∧ n ≤ bound ∧ Lib.decDigits n = l)) {w w' : World} (hw : Below w.heap.size w w') : Bdd l bound w (.panicked (gup 130)) w' :=
  ⟨hw, by rw [Dig.toNum_none hb h]⟩
end Go.Proofs.YtpkonagjnfphkaaGreatDoor

namespace Go.Proofs.YtpkonagjnfphkaaGreatDoor
open Go.RowKit
set_option linter.unusedSimpArgs false
set_option linter.unusedVariables false

theorem bytes_get! (l : List UInt8) (p : Nat) (h : p < l.length) : (⟨l.toArray⟩ : ByteArray).get! p = l[p] := by
  rw [Dig.get!_lt _ _ (by show p < l.toArray.size; simpa using h)]
theorem bytes_extract (l : List UInt8) (a b : Nat) : (⟨l.toArray⟩ : ByteArray).extract a b = ⟨((l.take b).drop a).toArray⟩ := by
  apply ByteArray.ext
  rw [ByteArray.data_extract]
  apply Array.ext'
  simp [Array.toList_extract, List.drop_take]
/-- What upTo tells. -/
def UpTo (c : UInt8) (l : List UInt8) (b : Nat) (T : TypeId) (w : World) (en : Ending) (w' : World) : Prop := match Dig.cut c l with
  | some p => en = .returned (strV p.1) ∧ But (· = b) w w' ∧ RowAt w' b #[strV p.2] T
  | none => en = .panicked (gup 130) ∧ Below w.heap.size w w'
theorem upTo_hit {c : UInt8} (hc : c.toNat < 128) {l : List UInt8} {s : ByteArray} (hs : s = ⟨l.toArray⟩) {p r k : Nat} (hlt : p < s.size) (HI : ∀ j, j < p → s.get! j ≠ c) (HC : (r < 128 ∧ k = 1 ∧ (s.get! p).toNat = r) ∨ (128 ≤ r ∧ ∀ j, p ≤ j → j < p + k → 128 ≤ (s.get! j).toNat)) (hr : r = c.toNat) :
    Dig.cut c l = some (l.take p, l.drop (p + 1)) ∧ s.extract 0 p = ⟨(l.take p).toArray⟩ ∧ s.extract (p + 1) s.size = ⟨(l.drop (p + 1)).toArray⟩ := by
  subst hs
  have hsz : (⟨l.toArray⟩ : ByteArray).size = l.length := by show l.toArray.size = _; simp
  rw [hsz] at hlt
  have hp : (( ⟨l.toArray⟩ : ByteArray).get! p).toNat = r := by rcases HC with h | h; exact h.2.2; omega
  rw [bytes_get! l p hlt] at hp
  refine ⟨Dig.cut_at c l p hlt (fun j hj hjp => ?_) (UInt8.toNat_inj.1 (by omega)), by rw [bytes_extract]; simp, by rw [bytes_extract, hsz, List.take_length]⟩
  have := HI j hjp
  rwa [bytes_get! l j hj] at this
theorem upTo_miss {c : UInt8} (hc : c.toNat < 128) {s : ByteArray} {p r k : Nat} (HI : ∀ j, j < p → s.get! j ≠ c) (HC : (r < 128 ∧ k = 1 ∧ (s.get! p).toNat = r) ∨ (128 ≤ r ∧ ∀ j, p ≤ j → j < p + k → 128 ≤ (s.get! j).toNat)) (hr : r ≠ c.toNat) : ∀ j, j < p + k → s.get! j ≠ c := by
  intro j hj e
  rcases Nat.lt_or_ge j p with h | h
  · exact HI j h e
  · rcases HC with ⟨h1, rfl, h2⟩ | ⟨h1, h2⟩
    · obtain rfl : j = p := by omega
      rw [e] at h2
      exact hr h2.symm
    · have := h2 j h hj
      rw [e] at this
      omega
theorem upTo_none {c : UInt8} {l : List UInt8} {s : ByteArray} (hs : s = ⟨l.toArray⟩) {p : Nat} (hp : p = s.size) (HI : ∀ j, j < p → s.get! j ≠ c) : Dig.cut c l = none := by
  subst hs
  have hsz : (⟨l.toArray⟩ : ByteArray).size = l.length := by show l.toArray.size = _; simp
  refine Dig.cut_none c l fun j hj => ?_
  have := HI j (by omega)
  rwa [bytes_get! l j hj] at this
end Go.Proofs.YtpkonagjnfphkaaGreatDoor
