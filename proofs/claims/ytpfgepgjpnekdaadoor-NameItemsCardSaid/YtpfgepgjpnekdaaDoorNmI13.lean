/-
  NmDig, NmCut, NmFmt: several texts in one (bundle.py).
-/
import Derived.Test.YtpfgepgjpnekdaaDoorNmI01
import Derived.Lib.ItoaNum
import Derived.Lib.AtoiAll
import Derived.Lib.DecodeN
import Derived.Test.YtpfgepgjpnekdaaDoorNmI12
import Derived.Test.YtpfgepgjpnekdaaDoorNmI02
import Derived.Lib.ItoaMem
import Derived.Lib.AppendIntMem
import Derived.BigCall
import Derived.BigGuard
namespace Go.Proofs.YtpfgepgjpnekdaaDoor
namespace Dig
theorem snoc_ind {α : Type} {p : List α → Prop} (h0 : p []) (h1 : ∀ l c, p l → p (l ++ [c])) (l : List α) : p l := by
  have H : ∀ r : List α, p r.reverse := by
    intro r
    induction r with
    | nil => exact h0
    | cons c r ih => rw [List.reverse_cons]; exact h1 _ _ ih
  have := H l.reverse
  rwa [List.reverse_reverse] at this
/-- The number of digits, one behind the other. -/
def val (l : List UInt8) : Nat := l.foldl (fun n c => 10 * n + (c.toNat - 48)) 0
def isD (c : UInt8) : Bool := decide (48 ≤ c.toNat ∧ c.toNat ≤ 57)
theorem val_snoc (l : List UInt8) (c : UInt8) : val (l ++ [c]) = 10 * val l + (c.toNat - 48) := by simp [val]
theorem toNat_dig {k : Nat} (h : k < 10) : (UInt8.ofNat (48 + k)).toNat = 48 + k := by
  rw [UInt8.toNat_ofNat']; omega
theorem dig_ofNat {c : UInt8} (h : isD c = true) : UInt8.ofNat (48 + (c.toNat - 48)) = c := by
  simp only [isD, decide_eq_true_eq] at h
  rw [show 48 + (c.toNat - 48) = c.toNat by omega]
  simp
theorem val_dec (u : Nat) : val (Lib.decDigits u) = u := by
  induction u using Nat.strongRecOn with
  | ind u ih =>
    rw [Lib.decDigits]
    split
    · rename_i h
      simp only [val, List.foldl_cons, List.foldl_nil, toNat_dig h]; omega
    · rw [val_snoc, ih (u / 10) (by omega), toNat_dig (by omega)]; omega
theorem all_dec (u : Nat) : (Lib.decDigits u).all isD = true := by
  induction u using Nat.strongRecOn with
  | ind u ih =>
    rw [Lib.decDigits]
    split
    · rename_i h
      simp only [List.all_cons, List.all_nil, isD, toNat_dig h, Bool.and_true, decide_eq_true_eq]; omega
    · rw [List.all_append, ih (u / 10) (by omega)]
      simp only [List.all_cons, List.all_nil, isD, toNat_dig (Nat.mod_lt u (by decide : 0 < 10)), Bool.and_true, Bool.true_and, decide_eq_true_eq]; omega
theorem ne_dec (u : Nat) : Lib.decDigits u ≠ [] := by
  rw [Lib.decDigits]
  split <;> simp
/-- No zero stands ahead of another digit. -/
def lean (l : List UInt8) : Prop := l ≠ [] ∧ (1 < l.length → l.head? ≠ some 48)
theorem val_pos : ∀ (l : List UInt8), l ≠ [] → l.all isD = true → l.head? ≠ some 48 → 0 < val l := by
  intro l
  induction l using snoc_ind with
  | h0 => intro h; exact absurd rfl h
  | h1 l c ih =>
    intro _ ha hh
    rw [val_snoc]
    cases l with
    | nil =>
      have hc : isD c = true := by simpa using ha
      have hne : c ≠ 48 := fun e => hh (by rw [e]; rfl)
      simp only [isD, decide_eq_true_eq] at hc
      have : c.toNat ≠ 48 := fun e => hne (UInt8.toNat_inj.1 e)
      omega
    | cons d r =>
      have := ih (by simp) (by rw [List.all_append] at ha; exact (Bool.and_eq_true_iff.1 ha).1) (by simpa using hh)
      omega
/-- Digits with no zero ahead are the digits of their number. -/
theorem dec_val : ∀ (l : List UInt8), l.all isD = true → lean l → Lib.decDigits (val l) = l := by
  intro l
  induction l using snoc_ind with
  | h0 => intro _ h; exact absurd rfl h.1
  | h1 l c ih =>
    intro ha hl
    rw [List.all_append] at ha
    obtain ⟨ha1, ha2⟩ := Bool.and_eq_true_iff.1 ha
    have hc : isD c = true := by simpa using ha2
    have hcr := hc
    simp only [isD, decide_eq_true_eq] at hcr
    rw [val_snoc, Lib.decDigits]
    cases l with
    | nil =>
      rw [dif_pos (by simp [val]; omega)]
      simp only [val, List.foldl_nil, Nat.mul_zero, Nat.zero_add, dig_ofNat hc, List.nil_append]
    | cons d r =>
      have hh : (d :: r).head? ≠ some 48 := by have := hl.2 (by simp); simpa using this
      have hp := val_pos (d :: r) (by simp) ha1 hh
      rw [dif_neg (by omega), show (10 * val (d :: r) + (c.toNat - 48)) / 10 = val (d :: r) by omega, show (10 * val (d :: r) + (c.toNat - 48)) % 10 = c.toNat - 48 by omega, dig_ofNat hc, ih ha1 ⟨by simp, fun _ => hh⟩]
/-- .. and a number's digits have none. -/
theorem lean_dec (u : Nat) : lean (Lib.decDigits u) := by
  refine ⟨ne_dec u, ?_⟩
  induction u using Nat.strongRecOn with
  | ind u ih =>
    rw [Lib.decDigits]
    split
    · intro h; simp at h
    · intro _
      rename_i h
      by_cases h2 : u / 10 < 10
      · rw [Lib.decDigits, dif_pos h2]
        simp only [List.cons_append, List.nil_append, List.head?_cons, ne_eq, Option.some.injEq]
        intro e
        have := congrArg UInt8.toNat e
        rw [toNat_dig h2] at this
        have h48 : (48 : UInt8).toNat = 48 := rfl
        omega
      · have hlen : 1 < (Lib.decDigits (u / 10)).length := by
          rw [Lib.decDigits, dif_neg h2, List.length_append]
          have := List.length_pos_iff.2 (ne_dec (u / 10 / 10))
          simp; omega
        have := ih (u / 10) (by omega) hlen
        obtain ⟨x, r, hx⟩ := List.exists_cons_of_ne_nil (ne_dec (u / 10))
        rw [hx] at this ⊢
        simpa using this
def valA (a : Nat) (l : List UInt8) : Nat := l.foldl (fun n c => 10 * n + (c.toNat - 48)) a
theorem valA_ge : ∀ (l : List UInt8) (a : Nat), a ≤ valA a l
  | [], a => Nat.le_refl _
  | c :: l, a => Nat.le_trans (by omega) (valA_ge l (10 * a + (c.toNat - 48)))
theorem parse_ok : ∀ (l : List UInt8) (a : Nat), l.all isD = true → valA a l < 18446744073709551616 → Lib.parseUint10 a l = .ok (valA a l)
  | [], a, _, _ => rfl
  | c :: l, a, h, hv => by
    simp only [List.all_cons, Bool.and_eq_true] at h
    have hc := h.1
    simp only [isD, decide_eq_true_eq] at hc
    have hg := valA_ge l (10 * a + (c.toNat - 48))
    have hv' : valA (10 * a + (c.toNat - 48)) l < 18446744073709551616 := hv
    rw [Lib.parseUint10, if_pos hc, if_neg (by omega), if_neg (by omega), show a * 10 + (c.toNat - 48) = 10 * a + (c.toNat - 48) by omega]
    exact parse_ok l _ h.2 hv'
theorem parse_all : ∀ (l : List UInt8) (a n : Nat), Lib.parseUint10 a l = .ok n → l.all isD = true ∧ n = valA a l
  | [], a, n, h => by simp only [Lib.parseUint10, Lib.NumEnd.ok.injEq] at h; exact ⟨rfl, h.symm⟩
  | c :: l, a, n, h => by
    rw [Lib.parseUint10] at h
    split at h
    · rename_i hc
      split at h
      · cases h
      · split at h
        · cases h
        · have := parse_all l _ n h
          refine ⟨by simp only [List.all_cons, Bool.and_eq_true]; exact ⟨by simp only [isD, decide_eq_true_eq]; exact hc, this.1⟩, ?_⟩
          rw [this.2, show a * 10 + (c.toNat - 48) = 10 * a + (c.toNat - 48) by omega]
          rfl
    · cases h
/-- What the code asks of a number's text is what the document asks. -/
theorem bounded_iff (l : List UInt8) (bound n : Nat) (hb : bound < 18446744073709551616) :
    (Lib.parseMag l = .ok n ∧ n ≤ bound ∧ Lib.decDigits n = l) ↔ (l.all isD = true ∧ lean l ∧ val l ≤ bound ∧ n = val l) := by
  constructor
  · rintro ⟨h1, h2, rfl⟩
    exact ⟨all_dec n, lean_dec n, by rw [val_dec]; exact h2, (val_dec n).symm⟩
  · rintro ⟨h1, h2, h3, rfl⟩
    refine ⟨?_, h3, dec_val l h1 h2⟩
    unfold Lib.parseMag
    rw [if_neg h2.1]
    exact parse_ok l 0 h1 (Nat.lt_of_le_of_lt h3 hb)
theorem val_len : ∀ (l : List UInt8), l.all isD = true → lean l → 1 < l.length → 10 ^ (l.length - 1) ≤ val l := by
  intro l
  induction l using snoc_ind with
  | h0 => intro _ h; exact absurd rfl h.1
  | h1 l c ih =>
    intro ha hl hlen
    rw [List.all_append] at ha
    obtain ⟨ha1, ha2⟩ := Bool.and_eq_true_iff.1 ha
    cases l with
    | nil => simp at hlen
    | cons d r =>
      have hh : (d :: r).head? ≠ some 48 := by have := hl.2 hlen; simpa using this
      rw [val_snoc]
      simp only [List.length_append, List.length_cons, List.length_nil, Nat.add_sub_cancel]
      by_cases hr : 1 < (d :: r).length
      · have := ih ha1 ⟨by simp, fun _ => hh⟩ hr
        simp only [List.length_cons, Nat.add_sub_cancel] at this
        rw [Nat.pow_succ]
        omega
      · have hr0 : r.length = 0 := by simp only [List.length_cons] at hr; omega
        have := val_pos (d :: r) (by simp) ha1 hh
        rw [hr0]
        omega
/-- The document's reading of a number. -/
def toNum (l : List UInt8) (bound : Nat) : Option Nat :=
  if l = [] ∨ 19 < l.length ∨ (1 < l.length ∧ l.head? = some 48) ∨ l.all isD = false then none else if bound < val l then none else some (val l)
theorem toNum_iff (l : List UInt8) (bound n : Nat) (hb : bound < 10000000000000000000) : toNum l bound = some n ↔ (l.all isD = true ∧ lean l ∧ val l ≤ bound ∧ n = val l) := by
  unfold toNum
  constructor
  · intro h
    split at h
    · cases h
    · rename_i hc
      split at h
      · cases h
      · rename_i hv
        simp only [not_or, not_and, Bool.not_eq_false] at hc
        exact ⟨hc.2.2.2, ⟨hc.1, hc.2.2.1⟩, by omega, (Option.some.inj h).symm⟩
  · rintro ⟨h1, h2, h3, rfl⟩
    have hlen : ¬ 19 < l.length := fun h => by
      have h4 := val_len l h1 h2 (by omega)
      have h5 : 10 ^ 19 ≤ 10 ^ (l.length - 1) := Nat.pow_le_pow_right (by decide) (by omega)
      omega
    rw [if_neg (by
      simp only [not_or, not_and, Bool.not_eq_false]
      exact ⟨h2.1, hlen, h2.2, h1⟩), if_neg (by omega)]
end Dig
end Go.Proofs.YtpfgepgjpnekdaaDoor

namespace Go.Proofs.YtpfgepgjpnekdaaDoor
open Go.Lib
namespace Dig
theorem decN_cases (n b0 b1 b2 b3 : Nat) : (b0 < 128 ∧ decodeN n b0 b1 b2 b3 = (b0, 1)) ∨ (128 ≤ b0 ∧ ∃ d, decodeN n b0 b1 b2 b3 = d ∧ 128 ≤ d.1 ∧ 1 ≤ d.2 ∧ d.2 ≤ 4 ∧ (1 < d.2 → 1 < n ∧ 128 ≤ b1) ∧ (2 < d.2 → 2 < n ∧ 128 ≤ b2) ∧ (3 < d.2 → 3 < n ∧ 128 ≤ b3)) := by
  unfold decodeN
  by_cases h : b0 < 128
  · exact .inl ⟨h, by rw [if_pos h]⟩
  · refine .inr ⟨by omega, _, rfl, ?_⟩
    rw [if_neg h]
    repeat' split
    all_goals (dsimp only; omega)
theorem get!_lt (s : ByteArray) (p : Nat) (h : p < s.size) : s.get! p = s.data.toList[p]'(by simpa using h) := by
  show s.data[p]! = _
  rw [getElem!_pos s.data p h]
  simp
/-- The rune at a place is the byte there, if one of both is below 128; else all its bytes are not. -/
theorem dec_cases (s : ByteArray) (p : Nat) (hp : p < s.size) : ∃ c k, Utf8.decode s p = (c, k) ∧ 1 ≤ k ∧ p + k ≤ s.size ∧
    ((c < 128 ∧ k = 1 ∧ (s.get! p).toNat = c) ∨ (128 ≤ c ∧ ∀ j, p ≤ j → j < p + k → 128 ≤ (s.get! j).toNat)) := by
  rw [decode_at]
  rcases decN_cases (s.size - p) (s.get! p).toNat (s.get! (p + 1)).toNat (s.get! (p + 2)).toNat (s.get! (p + 3)).toNat with ⟨h, e⟩ | ⟨h, d, e, h1, h2, h3, h4, h5, h6⟩
  · exact ⟨_, _, e, Nat.le_refl _, hp, .inl ⟨h, rfl, rfl⟩⟩
  · refine ⟨d.1, d.2, e, h2, ?_, .inr ⟨h1, fun j hj1 hj2 => ?_⟩⟩
    · rcases Nat.lt_or_ge 3 d.2 with g | g
      · have := h6 g; omega
      · rcases Nat.lt_or_ge 2 d.2 with g | g
        · have := h5 g; omega
        · rcases Nat.lt_or_ge 1 d.2 with g | g
          · have := h4 g; omega
          · omega
    · have hj : j = p ∨ j = p + 1 ∨ j = p + 2 ∨ j = p + 3 := by omega
      rcases hj with rfl | rfl | rfl | rfl
      · exact h
      · exact (h4 (by omega)).2
      · exact (h5 (by omega)).2
      · exact (h6 (by omega)).2
/-- A text ahead of, and behind, the first byte that is such. -/
def cut (c : UInt8) : List UInt8 → Option (List UInt8 × List UInt8)
  | [] => none
  | d :: l => if d = c then some ([], l) else (cut c l).map fun p => (d :: p.1, p.2)
theorem cut_at (c : UInt8) : ∀ (l : List UInt8) (k : Nat) (hk : k < l.length), (∀ j (h : j < l.length), j < k → l[j] ≠ c) → l[k] = c → cut c l = some (l.take k, l.drop (k + 1))
  | d :: l, 0, _, _, h => by
    have : d = c := h
    rw [cut, if_pos this]; rfl
  | d :: l, k + 1, hk, h0, h => by
    have hd : d ≠ c := h0 0 (by simp) (by omega)
    have := cut_at c l k (by simpa using hk) (fun j hj hlt => by have := h0 (j + 1) (by simpa using hj) (by omega); simpa using this) (by simpa using h)
    rw [cut, if_neg hd, this]; rfl
theorem cut_none (c : UInt8) : ∀ (l : List UInt8), (∀ j (h : j < l.length), l[j] ≠ c) → cut c l = none
  | [], _ => rfl
  | d :: l, h => by
    have hd : d ≠ c := h 0 (by simp)
    rw [cut, if_neg hd, cut_none c l (fun j hj => by have := h (j + 1) (by simpa using hj); simpa using this)]; rfl
theorem cut_some {c : UInt8} : ∀ {l a b : List UInt8}, cut c l = some (a, b) → l = a ++ c :: b ∧ c ∉ a
  | [], _, _, h => by cases h
  | d :: l, a, b, h => by
    rw [cut] at h
    split at h
    · rename_i e
      simp only [Option.some.injEq, Prod.mk.injEq] at h
      obtain ⟨rfl, rfl⟩ := h
      exact ⟨by rw [e]; rfl, by simp⟩
    · rename_i e
      obtain ⟨⟨p, q⟩, hp, h2⟩ := Option.map_eq_some_iff.1 h
      simp only [Prod.mk.injEq] at h2
      obtain ⟨rfl, rfl⟩ := h2
      obtain ⟨h3, h4⟩ := cut_some hp
      refine ⟨by rw [h3]; rfl, ?_⟩
      simp only [List.mem_cons, not_or]
      exact ⟨fun h => e h.symm, h4⟩
theorem cut_mk {c : UInt8} : ∀ {a b : List UInt8}, c ∉ a → cut c (a ++ c :: b) = some (a, b)
  | [], b, _ => by simp [cut]
  | d :: a, b, h => by
    simp only [List.mem_cons, not_or] at h
    rw [List.cons_append, cut, if_neg (fun e => h.1 e.symm), cut_mk h.2]; rfl
end Dig
end Go.Proofs.YtpfgepgjpnekdaaDoor

namespace Go.Proofs.YtpfgepgjpnekdaaDoor
open Go.RowKit Go.Sort Go.Lib
set_option linter.unusedSimpArgs false
set_option linter.unusedVariables false

abbrev strV (l : List UInt8) : Value := .string ⟨l.toArray⟩
theorem tab_up {P : Program} {w w' : World} {name : String} {k : IntKind} {zs : List Int} (h : Lib.TabIs P w name k zs) (hb : Below w.heap.size w w') : Lib.TabIs P w' name k zs := by
  unfold Lib.TabIs World.var? at *
  cases hg : P.globalNamed name with
  | none => simp [hg] at h
  | some g =>
    simp only [hg, Option.bind_some] at h ⊢
    cases hw : w.heap[g]? with
    | none => rw [hw] at h; cases h
    | some o =>
      rw [hb.block _ (Array.getElem?_eq_some_iff.1 hw).1]
      exact h
/-- What the rows lay: the table of powers, and the two errors of strconv. -/
structure NmT (w : World) : Prop where
  pow : Lib.TabIs Tryd.prog w "internal/strconv.uint64pow10" .u64 Lib.pow10Tab
  syn : ∃ v, w.cell? ⟨0, 0, none⟩ = some v ∧ (v = .nilIface ∨ ∃ te pe, v = .iface te pe)
  rng : ∃ v, w.cell? ⟨1, 0, none⟩ = some v ∧ (v = .nilIface ∨ ∃ te pe, v = .iface te pe)
theorem NmT.up {w w' : World} (h : NmT w) (hb : Below w.heap.size w w') : NmT w' := by
  obtain ⟨v1, h1, k1⟩ := h.syn
  obtain ⟨v2, h2, k2⟩ := h.rng
  exact ⟨tab_up h.pow hb, ⟨v1, cell_up hb h1, k1⟩, ⟨v2, cell_up hb h2, k2⟩⟩
theorem small_c (i : Nat) (h : i < 100) (w : World) : Calls Tryd.prog 109 #[.int .i64 i] w fun e w' => e = .returned (strV (Lib.decDigits i)) ∧ w' = w := Any.internal_strconv_small lays283 i h w
theorem numDigits_c (u : Nat) (h1 : 1 ≤ u) (h2 : u < 18446744073709551616) (w : World) (htab : Lib.TabIs Tryd.prog w "internal/strconv.uint64pow10" .u64 Lib.pow10Tab) :
    Calls Tryd.prog 110 #[.int .u64 u] w fun e w' => e = .returned (.int .i64 (Lib.nDigits u)) ∧ w' = w := Any.internal_strconv_numDigits laysM284 u h1 h2 w htab
theorem fin_pos0 (w : World) (o : Obj) (dk : Array UInt8) (k : Nat) : ∃ os, (putRow (fun (b : UInt8) => Value.int .u8 (b.toNat : Int)) (w.alloc o) w.heap.size 0 dk).drewN k = grow (w.drewN k) os := by
  rw [alloc_eq_grow]
  obtain ⟨os', _, e⟩ := putRow_grow_new (fun (b : UInt8) => Value.int .u8 (b.toNat : Int)) w #[o] w.heap.size 0 dk (Nat.le_refl _)
  exact ⟨os', by rw [e]; rfl⟩
set_option maxHeartbeats 4000000 in
set_option maxRecDepth 100000 in
theorem ifmtU_c (u : Nat) (hu64 : u < 18446744073709551616) (w : World) (hT : NmT w) : Calls Tryd.prog 95 #[.int .u64 u, .int .i64 10] w (Ret (strV (Lib.decDigits u)) w) := by
  by_cases hs : u < 100
  · have hd : decide ((u : Int) < 100) = true := by simp; omega
    go_enter Tryd.func95, Tryd.ntmps95
    go_wp2_with (go_at_call 109; refine (small_c u hs _).mono ?_; rintro e w' ⟨rfl, rfl⟩)
    go_ret
    exact ⟨rfl, Below.refl _ _⟩
  · have hu1 : 1 ≤ u := by omega
    have hd : decide ((u : Int) < 100) = false := by simp; omega
    have hnd20 : Lib.nDigits u ≤ 20 := by have := Lib.numDigits_eq u hu1 hu64; split at this <;> omega
    have hal : Tryd.prog.arrayLen 147 = 24 := by kernel_rfl
    have htab := hT.pow
    have hsl1 : ∀ W, (Instr.sliceAt 147 (.pointer (some ⟨w.heap.size, 0, none⟩)) none (some (.int .i64 (Lib.nDigits u : Int))) none).run Tryd.prog W = .ok (.slice (some ⟨w.heap.size, 0, none⟩) (Lib.nDigits u) 24) W := fun W => by
      rw [run_sliceAt_array_h W 147 ⟨w.heap.size, 0, none⟩ (by kernel_rfl) .i64 (Lib.nDigits u : Int) (by omega) (by rw [hal]; omega)]
      go_simp
    have hH0 := Lib.holds_zero0 w 147 (Lib.nDigits u) (by omega)
    have hfmt : Calls Tryd.prog 111 _ _ _ := Any.internal_strconv_formatBase10 lays285 w.heap.size 0 24 u (Array.replicate (Lib.nDigits u) 0) (w.alloc (.cells Lib.zeros24 147)) hH0 (by rw [Array.size_replicate]; exact Lib.lt_pow_nDigits u) hu64 (by rw [Array.size_replicate]; omega)
    rw [Array.size_replicate] at hfmt
    have HH0 := Lib.hid hH0
    clear hH0 hal hT
    go_enter Tryd.func95, Tryd.ntmps95
    go_wp2_with (go_at_call 110; refine (numDigits_c u hu1 hu64 _ (Lib.tabIs_alloc htab _)).mono ?_; rintro e w' ⟨rfl, rfl⟩)
    go_at_call 111
    refine hfmt.mono ?_
    rintro e w' ⟨rfl, k, v', dk, rfl, hF⟩
    have hcv : (convert 45 9 (.slice (some ⟨w.heap.size, 0, none⟩) (Lib.nDigits u) 24)).run Tryd.prog ((putRow (fun (b : UInt8) => Value.int .u8 (b.toNat : Int)) (w.alloc (.cells Lib.zeros24 147)) w.heap.size 0 dk).drewN k) = .ok (.string ⟨(Lib.decDigits u).toArray⟩) ((putRow (fun (b : UInt8) => Value.int .u8 (b.toNat : Int)) (w.alloc (.cells Lib.zeros24 147)) w.heap.size 0 dk).drewN k) := by
      have h := run_convert_bytes_back (P := Tryd.prog) ((putRow (fun (b : UInt8) => Value.int .u8 (b.toNat : Int)) (w.alloc (.cells Lib.zeros24 147)) w.heap.size 0 dk).drewN k) 45 9 5 ⟨w.heap.size, 0, none⟩ 24 (Lib.decDigits u) Tryd.underlying45 Tryd.underlying5 Tryd.underlying9 (fun j hj => by
        rw [Lib.row_is_numeral hF j hj, Lib.add_plain, World.cell?_drewN]
        exact cell?_putRow (fun (b : UInt8) => Value.int .u8 (b.toNat : Int)) _ w.heap.size 0 _ dk HH0.out (by rw [hF.size, Array.size_replicate]) j (by rw [hF.size]; rw [Lib.decDigits_length] at hj; exact hj))
      rw [Lib.decDigits_length] at h
      exact h
    go_wp2
    go_ret
    obtain ⟨os, eo⟩ := fin_pos0 w (.cells Lib.zeros24 147) dk k
    exact ⟨rfl, by rw [eo]; exact Lib.below_grow _ _ (Nat.le_refl _) _ _⟩
set_option maxRecDepth 100000 in
theorem fmtU_c (u : Nat) (hu64 : u < 18446744073709551616) (w : World) (hT : NmT w) : Calls Tryd.prog 82 #[.int .u64 u, .int .i64 10] w (Ret (strV (Lib.decDigits u)) w) := by
  go_enter Tryd.func82, Tryd.ntmps82
  go_wp2_with (go_at_call 95; refine (ifmtU_c u hu64 _ hT).mono ?_; rintro e w' ⟨rfl, hb⟩)
  go_ret
  exact ⟨rfl, hb⟩
set_option maxRecDepth 100000 in
theorem num64_c (u : Nat) (hu64 : u < 18446744073709551616) (w : World) (hT : NmT w) : Calls Tryd.prog 53 #[.int .u64 u] w (Ret (strV (Lib.decDigits u)) w) := by
  go_enter Tryd.func53, Tryd.ntmps53
  go_wp2_with (go_at_call 82; refine (fmtU_c u hu64 _ hT).mono ?_; rintro e w' ⟨rfl, hb⟩)
  go_ret
  exact ⟨rfl, hb⟩
set_option maxRecDepth 100000 in
theorem num32_c (u : Nat) (hu : u < 4294967296) (w : World) (hT : NmT w) : Calls Tryd.prog 54 #[.int .u32 u] w (Ret (strV (Lib.decDigits u)) w) := by
  have w1 : IntKind.u64.wrap (u : Int) = (u : Int) := by rw [IntKind.wrap_u64]; omega
  go_enter Tryd.func54, Tryd.ntmps54
  go_wp2_with (go_at_call 82; refine (fmtU_c u (by omega) _ hT).mono ?_; rintro e w' ⟨rfl, hb⟩)
  go_ret
  exact ⟨rfl, hb⟩
end Go.Proofs.YtpfgepgjpnekdaaDoor
