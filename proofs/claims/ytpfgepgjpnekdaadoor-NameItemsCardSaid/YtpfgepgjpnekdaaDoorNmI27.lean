/-
  NmRc, NmPr: several texts in one (bundle.py).
-/
import Derived.Test.YtpfgepgjpnekdaaDoorNmI21
import Derived.Test.YtpfgepgjpnekdaaDoorNmI16
namespace Go.Proofs.YtpfgepgjpnekdaaDoor
open Go.RowKit
set_option linter.unusedSimpArgs false
set_option linter.unusedVariables false
theorem bdrewN (w : World) (n : Nat) : Below w.heap.size w (w.drewN n) := ⟨rfl, rfl, rfl, Nat.le_refl _, fun _ _ => rfl⟩
/-- What Cut tells. -/
def CutV (c : UInt8) (l : List UInt8) : Value := match Dig.cut c l with
  | some p => .tuple #[strV p.1, strV p.2, .bool true]
  | none => .tuple #[strV l, .string ⟨#[]⟩, .bool false]
theorem bytes_at {s : ByteArray} {l : List UInt8} (hs : s = ⟨l.toArray⟩) (k : Nat) (h : k < s.size) (h2 : k < l.length) : s[k] = l[k] := by
  subst hs
  rfl
set_option maxHeartbeats 1000000 in
set_option maxRecDepth 100000 in
theorem rCut_c (c : UInt8) (hc8 : c.toNat < 128) (l : List UInt8) (hl : l.length ≤ 281474976710656) (w : World) : Calls Tryd.prog 46 #[strV l, .int .u8 c.toNat] w (Ret (CutV c l) w) := by
  obtain ⟨s, hs⟩ : ∃ s : ByteArray, s = ⟨l.toArray⟩ := ⟨_, rfl⟩
  have hsz : s.size = l.length := by rw [hs]; show l.toArray.size = _; simp
  have hlm : s.size ≤ 281474976710656 := by omega
  have HSZ := Lib.hid hsz
  have HS := Lib.hid hs
  rw [show strV l = .string s by rw [hs]]
  clear hsz hs
  go_enter Tryd.func46, Tryd.ntmps46
  go_wp2
  go_loopw [7] (fun v wr => ∃ k : Nat, k ≤ s.size ∧ v = .int .i64 k ∧ wr = w ∧ RowKit.Hid (∀ j, j < k → s.get! j ≠ c)) (fun v _ => s.size - (intOf v).toNat)
  case atStart => exact ⟨0, Nat.zero_le _, rfl, rfl, Lib.hid (fun j hj => absurd hj (by omega))⟩
  case round =>
    obtain ⟨k, hk, rfl, rfl, HI⟩ := hrel
    by_cases hlt : k < s.size
    · have hki : (k : Int) < (s.size : Int) := by omega
      have hkl : k < l.length := by rw [← HSZ.out]; exact hlt
      have hg : s.get! k = l[k] := by rw [HS.out]; exact bytes_get! l k hkl
      have hg2 := bytes_at HS.out k hlt hkl
      have hw1 : IntKind.i64.wrap ((k : Int) + 1) = (k : Int) + 1 := by rw [IntKind.wrap_i64]; omega
      have hki2 : (k : Int) ≤ (s.size : Int) := by omega
      have hki3 : (k : Int) + 1 ≤ (s.size : Int) := by omega
      by_cases hc : l[k] = c
      · have HH := Lib.hid (upTo_hit (c := c) (k := 1) (r := c.toNat) hc8 HS.out hlt HI.out (.inl ⟨hc8, rfl, by rw [hg, hc]⟩) rfl)
        have hb : ((s[k].toNat : Int) == (c.toNat : Int)) = true := by rw [hg2, hc]; simp
        clear hc hg hg2
        go_wp2
        go_quiet (fail)
        go_wp2
        go_ret3
        have hV : CutV c l = .tuple #[.string (s.extract 0 k), .string (s.extract (k + 1) s.size), .bool true] := by
          obtain ⟨h1, h2, h3⟩ := HH.out
          unfold CutV
          rw [h1, h2, h3]
        exact ⟨by rw [hV]; rfl, bdrewN _ _⟩
      · have hb : ((s[k].toNat : Int) == (c.toNat : Int)) = false := by
          rw [hg2]
          have : l[k].toNat ≠ c.toNat := fun e => hc (UInt8.toNat_inj.1 e)
          simp; omega
        have HN : RowKit.Hid (∀ j, j < k + 1 → s.get! j ≠ c) := Lib.hid (fun j hj => by
          rcases Nat.lt_or_ge j k with h | h
          · exact HI.out j h
          · obtain rfl : j = k := by omega
            rw [hg]; exact hc)
        clear hc hg hg2
        go_wp2
        exact ⟨⟨k + 1, by omega, by go_num, trivial, HN⟩, by simp [intOf]; omega⟩
    · have hki : (s.size : Int) ≤ (k : Int) := by omega
      have HC := Lib.hid (upTo_none HS.out (by omega : k = s.size) HI.out)
      go_wp2
      go_ret3
      have hV : CutV c l = .tuple #[.string s, .string ⟨#[]⟩, .bool false] := by
        unfold CutV
        rw [HC.out, HS.out]
      exact ⟨by rw [hV]; rfl, Below.refl _ _⟩
namespace Dig
theorem val_take (l : List UInt8) (k : Nat) (hk : k < l.length) : val (l.take (k + 1)) = 10 * val (l.take k) + (l[k].toNat - 48) := by
  rw [List.take_succ_eq_append_getElem hk, val_snoc]
theorem val_lt : ∀ (l : List UInt8), l.all isD = true → val l < 10 ^ l.length := by
  intro l
  induction l using snoc_ind with
  | h0 => intro _; simp [val]
  | h1 l c ih =>
    intro h
    rw [List.all_append] at h
    obtain ⟨h1, h2⟩ := Bool.and_eq_true_iff.1 h
    have := ih h1
    simp only [List.all_cons, List.all_nil, Bool.and_true, isD, decide_eq_true_eq] at h2
    rw [val_snoc, List.length_append, List.length_singleton, Nat.pow_succ]
    omega
theorem all_take (l : List UInt8) (k : Nat) (hk : k < l.length) (h : (l.take k).all isD = true) (hd : 48 ≤ l[k].toNat) (hd2 : l[k].toNat ≤ 57) : (l.take (k + 1)).all isD = true := by
  rw [List.take_succ_eq_append_getElem hk, List.all_append, h]
  simp [isD, hd, hd2]
theorem toNum_bad {l : List UInt8} {bound : Nat} (h : l = [] ∨ 19 < l.length ∨ (1 < l.length ∧ l.head? = some 48) ∨ l.all isD = false) : toNum l bound = none := if_pos h
theorem toNum_good {l : List UInt8} {bound : Nat} (h1 : l ≠ []) (h2 : l.length ≤ 19) (h3 : ¬ (1 < l.length ∧ l.head? = some 48)) (h4 : l.all isD = true) : toNum l bound = if bound < val l then none else some (val l) :=
  if_neg (by simp only [not_or]; exact ⟨h1, by omega, h3, by rw [h4]; simp⟩)
end Dig
/-- What ToNumber tells. -/
def NumV (l : List UInt8) (bound : Nat) : Value := match Dig.toNum l bound with
  | some n => .tuple #[.int .u64 n, .bool true]
  | none => .tuple #[.int .u64 0, .bool false]
theorem NumV.no {l : List UInt8} {bound : Nat} (h : Dig.toNum l bound = none) : NumV l bound = .tuple #[.int .u64 0, .bool false] := by unfold NumV; rw [h]
theorem NumV.yes {l : List UInt8} {bound n : Nat} (h : Dig.toNum l bound = some n) : NumV l bound = .tuple #[.int .u64 n, .bool true] := by unfold NumV; rw [h]
set_option maxHeartbeats 1000000 in
set_option maxRecDepth 100000 in
theorem rNum_early (l : List UInt8) (hl : l.length ≤ 281474976710656) (bound : Nat) (w : World) (h : l = [] ∨ 19 < l.length ∨ (1 < l.length ∧ l.head? = some 48)) : Calls Tryd.prog 47 #[strV l, .int .u64 bound] w (Ret (NumV l bound) w) := by
  rw [NumV.no (Dig.toNum_bad (by rcases h with h | h | h; exact .inl h; exact .inr (.inl h); exact .inr (.inr (.inl h))))]
  by_cases h1 : l = []
  · subst h1
    go_enter Tryd.func47, Tryd.ntmps47
    go_wp2
    go_ret2
    exact ⟨rfl, Below.refl _ _⟩
  · have hne : (l == []) = false := by simpa using h1
    have hemp : l.isEmpty = false := by simpa using h1
    by_cases h2 : 19 < l.length
    · have hd : decide ((19 : Int) < (l.length : Int)) = true := decide_eq_true (by omega)
      have hd2 : decide (19 < l.length) = true := decide_eq_true h2
      go_enter Tryd.func47, Tryd.ntmps47
      go_wp2
      go_ret2
      exact ⟨rfl, Below.refl _ _⟩
    · have h3 : 1 < l.length ∧ l.head? = some 48 := by rcases h with h | h | h; exact absurd h h1; exact absurd h h2; exact h
      obtain ⟨c, r, rfl⟩ : ∃ c r, l = 48 :: c :: r := by
        obtain ⟨a, b⟩ := h3
        match l, a, b with
        | x :: c :: r, _, b => simp only [List.head?_cons, Option.some.injEq] at b; exact ⟨c, r, by rw [b]⟩
      simp only [List.length_cons] at h2
      have hd : decide ((19 : Int) < ((r.length : Nat) : Int) + 1 + 1) = false := decide_eq_false (by omega)
      have hd2 : decide (19 < r.length + 1 + 1) = false := decide_eq_false (by omega)
      have hd3 : decide ((1 : Int) < ((r.length : Nat) : Int) + 1 + 1) = true := decide_eq_true (by omega)
      have hlz : (⟨(48 :: c :: r).toArray⟩ : ByteArray).size = r.length + 1 + 1 := by show (48 :: c :: r).toArray.size = _; simp
      have hz : (0 : Int) < ((r.length + 1 + 1 : Nat) : Int) := by omega
      clear h3 hne hemp h1 h
      go_enter Tryd.func47, Tryd.ntmps47
      go_wp2
      go_ret2
      exact ⟨rfl, Below.refl _ _⟩
set_option maxHeartbeats 1000000 in
set_option maxRecDepth 100000 in
theorem rNum_main (l : List UInt8) (bound : Nat) (hbd : bound < 18446744073709551616) (w : World) (h1 : l ≠ []) (h2 : l.length ≤ 19) (h3 : ¬ (1 < l.length ∧ l.head? = some 48)) : Calls Tryd.prog 47 #[strV l, .int .u64 bound] w (Ret (NumV l bound) w) := by
  obtain ⟨s, hs⟩ : ∃ s : ByteArray, s = ⟨l.toArray⟩ := ⟨_, rfl⟩
  have hsz : s.size = l.length := by rw [hs]; show l.toArray.size = _; simp
  have hlm : s.size ≤ 19 := by omega
  have hpos : 0 < s.size := by rw [hsz]; exact List.length_pos_iff.2 h1
  have hemp : s.toList.isEmpty = false := by rw [hs, ByteArray.toList_eq]; simpa using h1
  have hd : decide ((19 : Int) < (s.size : Int)) = false := decide_eq_false (by omega)
  have hd2 : decide (19 < s.size) = false := decide_eq_false (by omega)
  have HSZ := Lib.hid hsz
  have HS := Lib.hid hs
  rw [show strV l = .string s by rw [hs]]
  clear hsz hs
  have HL := Lib.hid (And.intro h1 (And.intro h2 h3))
  have HB0 : 1 < s.size → ((s[0].toNat : Int) == 48) = false := by
    intro h4
    have hl1 : 1 < l.length := by have := HSZ.out; omega
    rw [bytes_at HS.out 0 hpos (by omega)]
    have hne : l.head? ≠ some 48 := fun e => h3 ⟨hl1, e⟩
    rw [List.head?_eq_getElem?, List.getElem?_eq_getElem (by omega)] at hne
    have : l[0].toNat ≠ 48 := fun e => hne (by rw [UInt8.toNat_inj.1 (show l[0].toNat = (48 : UInt8).toNat from e)])
    simp; omega
  clear h1 h2 h3
  by_cases hone : 1 < s.size
  · have ho : decide ((1 : Int) < (s.size : Int)) = true := decide_eq_true (by omega)
    have hbf := HB0 hone
    clear HB0
    go_enter Tryd.func47, Tryd.ntmps47
    go_wp2
    go_loopw [6, 7] (fun vn vi wr => ∃ k : Nat, k ≤ s.size ∧ vi = .int .i64 k ∧ vn = .int .u64 (Dig.val (l.take k)) ∧ wr = w ∧ RowKit.Hid ((l.take k).all Dig.isD = true)) (fun _ vi _ => s.size - (intOf vi).toNat)
    case atStart => exact ⟨0, Nat.zero_le _, rfl, rfl, rfl, Lib.hid rfl⟩
    case round =>
      obtain ⟨k, hk, rfl, hvn, rfl, HI⟩ := hrel
      obtain ⟨v, hv⟩ : ∃ v, Dig.val (l.take k) = v := ⟨_, rfl⟩
      rw [hv] at hvn
      subst hvn
      by_cases hlt : k < s.size
      · have hki : (k : Int) < (s.size : Int) := by omega
        have hkl : k < l.length := by rw [← HSZ.out]; exact hlt
        have hg2 := bytes_at HS.out k hlt hkl
        have hvl : v < 1000000000000000000 := by
          have h4 := Dig.val_lt _ HI.out
          have h5 : 10 ^ (l.take k).length ≤ 10 ^ 18 := Nat.pow_le_pow_right (by decide) (by rw [List.length_take]; omega)
          rw [hv] at h4; omega
        have hw1 : IntKind.i64.wrap ((k : Int) + 1) = (k : Int) + 1 := by rw [IntKind.wrap_i64]; omega
        have HV := Lib.hid hv
        have hcb : s[k].toNat < 256 := UInt8.toNat_lt _
        clear hv
        by_cases hc1 : s[k].toNat < 48
        · have hd1 : decide ((s[k].toNat : Int) < 48) = true := decide_eq_true (by omega)
          have HN := Lib.hid (NumV.no (bound := bound) (Dig.toNum_bad (l := l) (.inr (.inr (.inr (Bool.eq_false_iff.2 fun ha => by
            have := List.all_eq_true.1 ha l[k] (List.getElem_mem hkl)
            simp only [Dig.isD, decide_eq_true_eq] at this
            rw [hg2] at hc1; omega))))))
          clear hg2 hc1
          go_wp2
          go_ret2
          exact ⟨by rw [HN.out]; rfl, Below.refl _ _⟩
        · have hd1 : decide ((s[k].toNat : Int) < 48) = false := decide_eq_false (by omega)
          by_cases hc2 : 57 < s[k].toNat
          · have hd2' : decide ((57 : Int) < (s[k].toNat : Int)) = true := decide_eq_true (by omega)
            have HN := Lib.hid (NumV.no (bound := bound) (Dig.toNum_bad (l := l) (.inr (.inr (.inr (Bool.eq_false_iff.2 fun ha => by
              have := List.all_eq_true.1 ha l[k] (List.getElem_mem hkl)
              simp only [Dig.isD, decide_eq_true_eq] at this
              rw [hg2] at hc2; omega))))))
            clear hg2 hc1 hc2
            go_wp2
            go_ret2
            exact ⟨by rw [HN.out]; rfl, Below.refl _ _⟩
          · have hd2' : decide ((57 : Int) < (s[k].toNat : Int)) = false := decide_eq_false (by omega)
            have HA := Lib.hid (Dig.all_take l k hkl HI.out (by rw [← hg2]; omega) (by rw [← hg2]; omega))
            have HT := Lib.hid ((Dig.val_take l k hkl).trans (by rw [HV.out, ← hg2]))
            clear hg2
            obtain ⟨c, hc⟩ : ∃ c, s[k].toNat = c := ⟨_, rfl⟩
            simp only [hc] at hd1 hd2' hcb hc1 hc2 HT
            have hw2 : IntKind.u64.wrap (10 * (v : Int)) = 10 * (v : Int) := by rw [IntKind.wrap_u64]; omega
            have hw3 : IntKind.u8.wrap ((c : Int) - 48) = (c : Int) - 48 := by rw [IntKind.wrap_u8]; omega
            have hw4 : IntKind.u64.wrap ((c : Int) - 48) = (c : Int) - 48 := by rw [IntKind.wrap_u64]; omega
            have hw5 : IntKind.u64.wrap (10 * (v : Int) + ((c : Int) - 48)) = 10 * (v : Int) + ((c : Int) - 48) := by rw [IntKind.wrap_u64]; omega
            have HE : RowKit.Hid (10 * (v : Int) + ((c : Int) - 48) = ((Dig.val (l.take (k + 1)) : Nat) : Int)) := Lib.hid (by rw [HT.out]; omega)
            go_wp2
            exact ⟨⟨k + 1, by omega, by go_num, by rw [← HE.out], trivial, HA⟩, by simp [intOf]; omega⟩
      · have hki : (s.size : Int) ≤ (k : Int) := by omega
        have hkl : l.length ≤ k := by have := HSZ.out; omega
        have HAL : RowKit.Hid (l.all Dig.isD = true) := Lib.hid (by have := HI.out; rwa [List.take_of_length_le hkl] at this)
        rw [List.take_of_length_le hkl] at hv
        have HN := Lib.hid (Dig.toNum_good (bound := bound) HL.out.1 HL.out.2.1 HL.out.2.2 HAL.out)
        rw [hv] at HN
        clear hv hkl HI
        by_cases hbv : bound < v
        · have hd3 : decide ((bound : Int) < (v : Int)) = true := decide_eq_true (by omega)
          have HF := Lib.hid (NumV.no (HN.out.trans (if_pos hbv)))
          go_wp2
          go_ret2
          exact ⟨by rw [HF.out]; rfl, Below.refl _ _⟩
        · have hd3 : decide ((bound : Int) < (v : Int)) = false := decide_eq_false (by omega)
          have HF := Lib.hid (NumV.yes (HN.out.trans (if_neg hbv)))
          go_wp2
          go_ret2
          exact ⟨by rw [HF.out]; rfl, Below.refl _ _⟩
  · have ho : decide ((1 : Int) < (s.size : Int)) = false := decide_eq_false (by omega)
    clear HB0
    go_enter Tryd.func47, Tryd.ntmps47
    go_wp2
    go_loopw [6, 7] (fun vn vi wr => ∃ k : Nat, k ≤ s.size ∧ vi = .int .i64 k ∧ vn = .int .u64 (Dig.val (l.take k)) ∧ wr = w ∧ RowKit.Hid ((l.take k).all Dig.isD = true)) (fun _ vi _ => s.size - (intOf vi).toNat)
    case atStart => exact ⟨0, Nat.zero_le _, rfl, rfl, rfl, Lib.hid rfl⟩
    case round =>
      obtain ⟨k, hk, rfl, hvn, rfl, HI⟩ := hrel
      obtain ⟨v, hv⟩ : ∃ v, Dig.val (l.take k) = v := ⟨_, rfl⟩
      rw [hv] at hvn
      subst hvn
      by_cases hlt : k < s.size
      · have hki : (k : Int) < (s.size : Int) := by omega
        have hkl : k < l.length := by rw [← HSZ.out]; exact hlt
        have hg2 := bytes_at HS.out k hlt hkl
        have hvl : v < 1000000000000000000 := by
          have h4 := Dig.val_lt _ HI.out
          have h5 : 10 ^ (l.take k).length ≤ 10 ^ 18 := Nat.pow_le_pow_right (by decide) (by rw [List.length_take]; omega)
          rw [hv] at h4; omega
        have hw1 : IntKind.i64.wrap ((k : Int) + 1) = (k : Int) + 1 := by rw [IntKind.wrap_i64]; omega
        have HV := Lib.hid hv
        have hcb : s[k].toNat < 256 := UInt8.toNat_lt _
        clear hv
        by_cases hc1 : s[k].toNat < 48
        · have hd1 : decide ((s[k].toNat : Int) < 48) = true := decide_eq_true (by omega)
          have HN := Lib.hid (NumV.no (bound := bound) (Dig.toNum_bad (l := l) (.inr (.inr (.inr (Bool.eq_false_iff.2 fun ha => by
            have := List.all_eq_true.1 ha l[k] (List.getElem_mem hkl)
            simp only [Dig.isD, decide_eq_true_eq] at this
            rw [hg2] at hc1; omega))))))
          clear hg2 hc1
          go_wp2
          go_ret2
          exact ⟨by rw [HN.out]; rfl, Below.refl _ _⟩
        · have hd1 : decide ((s[k].toNat : Int) < 48) = false := decide_eq_false (by omega)
          by_cases hc2 : 57 < s[k].toNat
          · have hd2' : decide ((57 : Int) < (s[k].toNat : Int)) = true := decide_eq_true (by omega)
            have HN := Lib.hid (NumV.no (bound := bound) (Dig.toNum_bad (l := l) (.inr (.inr (.inr (Bool.eq_false_iff.2 fun ha => by
              have := List.all_eq_true.1 ha l[k] (List.getElem_mem hkl)
              simp only [Dig.isD, decide_eq_true_eq] at this
              rw [hg2] at hc2; omega))))))
            clear hg2 hc1 hc2
            go_wp2
            go_ret2
            exact ⟨by rw [HN.out]; rfl, Below.refl _ _⟩
          · have hd2' : decide ((57 : Int) < (s[k].toNat : Int)) = false := decide_eq_false (by omega)
            have HA := Lib.hid (Dig.all_take l k hkl HI.out (by rw [← hg2]; omega) (by rw [← hg2]; omega))
            have HT := Lib.hid ((Dig.val_take l k hkl).trans (by rw [HV.out, ← hg2]))
            clear hg2
            obtain ⟨c, hc⟩ : ∃ c, s[k].toNat = c := ⟨_, rfl⟩
            simp only [hc] at hd1 hd2' hcb hc1 hc2 HT
            have hw2 : IntKind.u64.wrap (10 * (v : Int)) = 10 * (v : Int) := by rw [IntKind.wrap_u64]; omega
            have hw3 : IntKind.u8.wrap ((c : Int) - 48) = (c : Int) - 48 := by rw [IntKind.wrap_u8]; omega
            have hw4 : IntKind.u64.wrap ((c : Int) - 48) = (c : Int) - 48 := by rw [IntKind.wrap_u64]; omega
            have hw5 : IntKind.u64.wrap (10 * (v : Int) + ((c : Int) - 48)) = 10 * (v : Int) + ((c : Int) - 48) := by rw [IntKind.wrap_u64]; omega
            have HE : RowKit.Hid (10 * (v : Int) + ((c : Int) - 48) = ((Dig.val (l.take (k + 1)) : Nat) : Int)) := Lib.hid (by rw [HT.out]; omega)
            go_wp2
            exact ⟨⟨k + 1, by omega, by go_num, by rw [← HE.out], trivial, HA⟩, by simp [intOf]; omega⟩
      · have hki : (s.size : Int) ≤ (k : Int) := by omega
        have hkl : l.length ≤ k := by have := HSZ.out; omega
        have HAL : RowKit.Hid (l.all Dig.isD = true) := Lib.hid (by have := HI.out; rwa [List.take_of_length_le hkl] at this)
        rw [List.take_of_length_le hkl] at hv
        have HN := Lib.hid (Dig.toNum_good (bound := bound) HL.out.1 HL.out.2.1 HL.out.2.2 HAL.out)
        rw [hv] at HN
        clear hv hkl HI
        by_cases hbv : bound < v
        · have hd3 : decide ((bound : Int) < (v : Int)) = true := decide_eq_true (by omega)
          have HF := Lib.hid (NumV.no (HN.out.trans (if_pos hbv)))
          go_wp2
          go_ret2
          exact ⟨by rw [HF.out]; rfl, Below.refl _ _⟩
        · have hd3 : decide ((bound : Int) < (v : Int)) = false := decide_eq_false (by omega)
          have HF := Lib.hid (NumV.yes (HN.out.trans (if_neg hbv)))
          go_wp2
          go_ret2
          exact ⟨by rw [HF.out]; rfl, Below.refl _ _⟩
theorem rNum_c (l : List UInt8) (hl : l.length ≤ 281474976710656) (bound : Nat) (hbd : bound < 18446744073709551616) (w : World) : Calls Tryd.prog 47 #[strV l, .int .u64 bound] w (Ret (NumV l bound) w) := by
  by_cases h : l = [] ∨ 19 < l.length ∨ (1 < l.length ∧ l.head? = some 48)
  · exact rNum_early l hl bound w h
  · simp only [not_or] at h
    exact rNum_main l bound hbd w h.1 (by omega) h.2.2
end Go.Proofs.YtpfgepgjpnekdaaDoor

namespace Go.Proofs.YtpfgepgjpnekdaaDoor
open Go.RowKit
set_option linter.unusedSimpArgs false
set_option linter.unusedVariables false
namespace Dig
def parseP (l : List UInt8) : (Nat × Nat) × Int := if 100 < l.length then ((0, 0), 3) else match endP l with | some p => (p, 0) | none => ((0, 0), 130)
end Dig
theorem enters_nmCaught : Enters Tryd.prog 37 := enters_of Tryd.func37 (by kernel_rfl) rfl
theorem enters_parse1 : Enters Tryd.prog 38 := enters_of Tryd.func38 (by kernel_rfl) rfl
set_option maxRecDepth 100000 in
theorem parse1_c (X : Nat) (k0 n0 : Value) (w : World) (hX : RowAt w X #[k0, n0] 25) :
    Calls Tryd.prog 38 #[.pointer (some ⟨X, 0, none⟩)] w fun en w' => en = .returned (.tuple #[]) ∧ But (fun k => k = X) w w' ∧ RowAt w' X #[.int .u32 0, .int .u32 0] 25 := by
  have a0 := hX.cell (i := 0) (v := k0) rfl
  have a1 := hX.cell (i := 1) (v := n0) rfl
  have f0 := hX.fz 0
  have f1 := hX.fz 1
  go_enter Tryd.func38, Tryd.ntmps38
  go_wp2
  go_end0
  exact ⟨rfl, (But.setCell (O := fun k => k = X) w ⟨X, 0, none⟩ (.int .u32 0) (.inl rfl)).trans (But.setCell _ _ _ (.inl rfl)), (hX.set 0 (.int .u32 0)).set 1 (.int .u32 0)⟩
set_option maxHeartbeats 1000000 in
set_option maxRecDepth 100000 in
/-- The door, where something was given up. -/
theorem parse_door {R : Ending → World → Prop} (X E : Nat) (e : Int) (k0 n0 : Value) (W : World) (hX : RowAt W X #[k0, n0] 25) (hE : RowAt W E #[.int .i64 0] 26) (hXE : X ≠ E) (u0 u1 u4 u5 u6 u7 u8 u9 u10 : Value)
    (hR : ∀ W', But (fun k => k = X ∨ k = E) W W' → R (.returned (.tuple #[.agg #[.int .u32 0, .int .u32 0], .int .i64 e])) W') :
    Leaves Tryd.prog Tryd.f10 #[u0, u1, .pointer (some ⟨X, 0, none⟩), .pointer (some ⟨E, 0, none⟩), u4, u5, u6, u7, u8, u9, u10] R [{ target := .fn (.func 37) #[], args := #[.pointer (some ⟨E, 0, none⟩), .func (.func 38) #[] #[.pointer (some ⟨X, 0, none⟩)]] }] (.panicking (gup e)) W := by
  have c0 := hE.cell (i := 0) rfl
  have f0 := hE.fz 0
  have b1 : But (fun k => k = E) W (W.setCell ⟨E, 0, none⟩ (.int .i64 e)) := But.setCell _ _ _ (.inl rfl)
  have hX1 := (b1.same _ hX.lt hXE).trans hX
  have hE1 := hE.set 0 (.int .i64 e)
  have hfc := parse1_c X k0 n0 _ hX1
  refine leaves_cons (f := 37) (args := #[.pointer (some ⟨E, 0, none⟩), .func (.func 38) #[] #[.pointer (some ⟨X, 0, none⟩)]]) (by simp) (by have := enters_nmCaught; unfold Enters at this; simp [go_sem, invoke, this]) ?_
  refine (nmCaught_gup E e 0 38 #[.pointer (some ⟨X, 0, none⟩)] enters_parse1 W c0 f0 hfc).mono ?_
  rintro en u' w'' ⟨rfl, rfl, b2, hX2⟩
  have hE2 := (b2.same _ hE1.lt (fun h => hXE h.symm)).trans hE1
  have hfin := hR _ ((b1.mono fun _ _ h => .inr h).trans (b2.mono fun _ _ h => .inl h))
  have r0 := hX2.cell (i := 0) (v := .int .u32 0) rfl
  have r1 := hX2.cell (i := 1) (v := .int .u32 0) rfl
  have q2 : w''.cell? ⟨E, 0, none⟩ = some (.int .i64 e) := RowAt.cell hE2 (i := 0) rfl
  simpa [Leaves, settle, results, Tryd.results10, go_sem, r0, r1, q2] using hfin
/-- What Parse tells. -/
def ParE (l : List UInt8) (w : World) (en : Ending) (w' : World) : Prop := Below w.heap.size w w' ∧ en = .returned (.tuple #[.agg #[.int .u32 (Dig.parseP l).1.1, .int .u32 (Dig.parseP l).1.2], .int .i64 (Dig.parseP l).2])
set_option maxHeartbeats 1000000 in
set_option maxRecDepth 100000 in
theorem parse_c (l : List UInt8) (hl : l.length ≤ 281474976710656) (w : World) (hT : NmT w) : Calls Tryd.prog 10 #[strV l] w (ParE l w) := by
  have hlz : (⟨l.toArray⟩ : ByteArray).size = l.length := by show l.toArray.size = _; simp
  have X0 := RowAt.new w #[.int .u32 0, .int .u32 0] 25
  have E0 := RowAt.new (w.alloc (.cells #[.int .u32 0, .int .u32 0] 25)) #[.int .i64 0] 26
  have X1 := X0.alloc (.cells #[.int .i64 0] 26)
  have hB0 : Below w.heap.size w ((w.alloc (.cells #[.int .u32 0, .int .u32 0] 25)).alloc (.cells #[.int .i64 0] 26)) := (below_alloc w _).alloc (by simp) _
  simp only [World.size_alloc] at E0
  obtain ⟨W0, hW0⟩ : ∃ W0, (w.alloc (.cells #[.int .u32 0, .int .u32 0] 25)).alloc (.cells #[.int .i64 0] 26) = W0 := ⟨_, rfl⟩
  rw [hW0] at E0 X1 hB0
  have HB := Lib.hid hB0
  have HX := Lib.hid X1
  have HE := Lib.hid E0
  have HT := Lib.hid (hT.up hB0)
  clear X0 E0 X1 hT hB0
  by_cases h1 : 100 < l.length
  · have HP := Lib.hid (show Dig.parseP l = ((0, 0), 3) by unfold Dig.parseP; rw [if_pos h1])
    have hd : decide ((l.length : Int) ≤ 100) = false := decide_eq_false (by omega)
    go_enter_defers Tryd.func10, Tryd.ntmps10
    go_wp2_with (go_at_call 39; (with_reducible refine (nmMust_no _ _).mono ?_); rintro en w6 ⟨rfl, rfl⟩)
    refine parse_door _ _ 3 _ _ _ HX.out HE.out (by omega) _ _ _ _ _ _ _ _ _ (fun W' hb => ⟨?_, by rw [HP.out]; rfl⟩)
    exact HB.out.trans (hb.below (fun k e => by omega) HB.out.size)
  · have hd : decide ((l.length : Int) ≤ 100) = true := decide_eq_true (by omega)
    cases hp : Dig.endP l with
    | none =>
      have HP := Lib.hid (show Dig.parseP l = ((0, 0), 130) by unfold Dig.parseP; rw [if_neg h1, hp])
      have HQ := Lib.hid hp
      clear hp
      go_enter_defers Tryd.func10, Tryd.ntmps10
      go_wp2_with (first
        | (go_at_call 39; (with_reducible refine (nmMust_yes _ _).mono ?_); rintro en w6 ⟨rfl, rfl⟩)
        | (go_at_call 40; refine (endpoint_c l hl _ HT.out).mono ?_; rintro en w2 hU; unfold EndE at hU; rw [HQ.out] at hU; obtain ⟨hb2, rfl⟩ := hU))
      refine parse_door _ _ 130 _ _ _ (HX.out.below hb2) (HE.out.below hb2) (by omega) _ _ _ _ _ _ _ _ _ (fun W' hb => ⟨?_, by rw [HP.out]; rfl⟩)
      have hbw := below_up HB.out hb2
      exact hbw.trans (hb.below (fun k e => by omega) hbw.size)
    | some p =>
      have HP := Lib.hid (show Dig.parseP l = (p, 0) by unfold Dig.parseP; rw [if_neg h1, hp])
      have HQ := Lib.hid hp
      clear hp
      obtain ⟨p1, p2⟩ := p
      go_enter_defers Tryd.func10, Tryd.ntmps10
      go_wp2_with (first
        | (go_at_call 39; (with_reducible refine (nmMust_yes _ _).mono ?_); rintro en w6 ⟨rfl, rfl⟩)
        | (go_at_call 40; refine (endpoint_c l hl _ HT.out).mono ?_; rintro en w2 hU; unfold EndE at hU; rw [HQ.out] at hU; obtain ⟨hb2, rfl⟩ := hU; have z2 := HX.out.below hb2; have z3 := HE.out.below hb2; have y0 := z2.cell (i := 0) rfl; have y1 := z2.cell (i := 1) rfl; have y3 := z3.cell (i := 0) rfl; have f0 := z2.fz 0; have f1 := z2.fz 1; have f3 := z3.fz 0))
      refine leaves_cons (f := 37) (args := #[.pointer (some ⟨w.heap.size + 1, 0, none⟩), .func (.func 38) #[] #[.pointer (some ⟨w.heap.size, 0, none⟩)]]) (by simp) (by have := enters_nmCaught; unfold Enters at this; simp [go_sem, invoke, this]) ?_
      refine (nmCaught_idle ⟨w.heap.size + 1, 0, none⟩ 38 #[.pointer (some ⟨w.heap.size, 0, none⟩)] _).mono ?_
      rintro en u' w'' ⟨rfl, rfl, rfl⟩
      have hX5 := (z2.set 0 (.int .u32 p1)).set 1 (.int .u32 p2)
      have sX : But (fun k => k = w.heap.size) w2 ((w2.setCell ⟨w.heap.size, 0, none⟩ (.int .u32 p1)).setCell ⟨w.heap.size, 1, none⟩ (.int .u32 p2)) := (But.setCell (O := fun k => k = w.heap.size) w2 ⟨w.heap.size, 0, none⟩ (.int .u32 p1) (.inl rfl)).trans (But.setCell _ _ _ (.inl rfl))
      have hE5 := (sX.same _ z3.lt (by omega)).trans z3
      obtain ⟨W5, hW5⟩ : ∃ x, (w2.setCell ⟨w.heap.size, 0, none⟩ (.int .u32 p1)).setCell ⟨w.heap.size, 1, none⟩ (.int .u32 p2) = x := ⟨_, rfl⟩
      rw [hW5] at hX5 sX hE5 ⊢
      have sE : But (fun k => k = w.heap.size + 1) W5 (W5.setCell ⟨w.heap.size + 1, 0, none⟩ (.int .i64 0)) := But.setCell _ _ _ (.inl rfl)
      have hX6 := (sE.same _ (RowAt.lt hX5) (by omega)).trans hX5
      have hE6 := RowAt.set hE5 0 (.int .i64 0)
      have r0 := RowAt.cell hX6 (i := 0) (v := .int .u32 p1) rfl
      have r1 := RowAt.cell hX6 (i := 1) (v := .int .u32 p2) rfl
      have r2 := hE6.cell (i := 0) (v := .int .i64 0) rfl
      have hbw := below_up HB.out hb2
      have hfin : ParE l w (.returned (.tuple #[.agg #[.int .u32 p1, .int .u32 p2], .int .i64 0])) (W5.setCell ⟨w.heap.size + 1, 0, none⟩ (.int .i64 0)) :=
        ⟨hbw.trans (((sX.mono (O' := fun k => w.heap.size ≤ k) (fun _ _ e => by omega)).trans (sE.mono fun _ _ e => by omega)).below (fun k e => e) hbw.size), by rw [HP.out]⟩
      simpa [Leaves, settle, results, Tryd.results10, go_sem, r0, r1, r2] using hfin
end Go.Proofs.YtpfgepgjpnekdaaDoor
