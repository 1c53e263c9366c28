/-
  OctetD, OctetE: several texts in one (bundle.py).
-/
import Derived.Test.YtpfgepgjpnekdaaDoorNmI06
import Derived.Lib.AppendZeros
namespace Go.Proofs.YtpfgepgjpnekdaaDoor
open Go.RowKit
set_option linter.unusedSimpArgs false
set_option linter.unusedVariables false

namespace Oct
def getV (l : List UInt8) : Int := if okW l.length then beV l else 0
def getE (l : List UInt8) : Int := if okW l.length then 0 else 2
theorem take_snoc (l : List UInt8) (k : Nat) (h : k < l.length) : l.take (k + 1) = l.take k ++ [l[k]] := by rw [List.take_succ_eq_append_getElem h]
theorem beV_take (l : List UInt8) (k : Nat) (h : k < l.length) : beV (l.take (k + 1)) = beV (l.take k) * 256 + (l[k].toNat : Int) := by rw [take_snoc l k h, beV_snoc]
theorem pow_mono {a b : Nat} (h : a ≤ b) : (256 : Int) ^ a ≤ 256 ^ b := by
  have := Int.ofNat_le.2 (Nat.pow_le_pow_right (show 0 < 256 by decide) h)
  rw [Int.natCast_pow, Int.natCast_pow] at this
  exact this
theorem beV_take_b (l : List UInt8) (k : Nat) (hk : k ≤ 8) : 0 ≤ beV (l.take k) ∧ (k < 8 → beV (l.take k) < 72057594037927936) ∧ beV (l.take k) < 18446744073709551616 := by
  have h0 := beV_lo (l.take k)
  have h1 := beV_hi (l.take k)
  have hl : (l.take k).length ≤ k := List.length_take_le _ _
  refine ⟨h0, fun h => ?_, ?_⟩
  · have := pow_mono (show (l.take k).length ≤ 7 by omega)
    have e : (256 : Int) ^ 7 = 72057594037927936 := by decide
    omega
  · have := pow_mono (show (l.take k).length ≤ 8 by omega)
    have e : (256 : Int) ^ 8 = 18446744073709551616 := by decide
    omega
end Oct
theorem or_byte (x c : Int) (hx0 : 0 ≤ x) (hx : x < 72057594037927936) (hc0 : 0 ≤ c) (hc : c < 256) : bits BinOp.or IntKind.u64 (x * 256) c = x * 256 + c := by
  have h := bits_or_u64_nat (x * 256).toNat c.toNat (by omega) (by omega)
  rw [Int.toNat_of_nonneg (by omega), Int.toNat_of_nonneg hc0] at h
  rw [h]
  have e : (x * 256).toNat = x.toNat <<< 8 := by rw [Nat.shiftLeft_eq]; omega
  rw [e, ← Nat.shiftLeft_add_eq_or_of_lt (by omega : c.toNat < 2 ^ 8), Nat.shiftLeft_eq]
  omega

namespace Oct
/-- The width that is looked at in round k of the reference's Least. -/
def w3 (k : Nat) : Int := match k with | 0 => 1 | 1 => 2 | _ => 4
theorem putE_small (n wd : Int) (hw : okW wd = true) : putE n wd = if fitsB wd n then 0 else 4 := by unfold putE; rw [hw]; rfl
end Oct

end Go.Proofs.YtpfgepgjpnekdaaDoor

namespace Go.Proofs.YtpfgepgjpnekdaaDoor
open Go.RowKit
set_option linter.unusedSimpArgs false
set_option linter.unusedVariables false

/-- slices.Equal of bytes. -/
theorem equalB_c (l m : List UInt8) (v u : Value) (n k : Nat) (w : World) (hv : Sl w 1 v n (by8 l)) (hu : Sl w 1 u k (by8 m)) (hn : n ≤ 140737488351233) :
    Calls Tryd.prog 98 #[v, u] w (Ret (.bool (decide (l = m))) w) := by
  have hln := hv.n_len
  have hmk := hu.n_len
  obtain ⟨a, c, rfl⟩ := hv.len
  obtain ⟨a', c', rfl⟩ := hu.len
  by_cases hnk : n = k
  · subst hnk
    have Hln := Lib.hid hln; clear hln
    have Hmk := Lib.hid hmk; clear hmk
    go_enter Tryd.func98, Tryd.ntmps98
    go_wp2
    go_loopw [13] (fun i wr => ∃ j : Nat, j ≤ n ∧ i = .int .i64 j ∧ l.take j = m.take j ∧ Below w.heap.size w wr) (fun i _ => n - (intOf i).toNat)
    case atStart => exact ⟨0, Nat.zero_le _, rfl, rfl, Below.refl _ _⟩
    case round =>
      obtain ⟨j, hj, rfl, hpre, hB⟩ := hrel
      have Hpre := Lib.hid hpre; clear hpre
      by_cases hlt : j < n
      · have h1 : j < l.length := by rw [Hln.out]; exact hlt
        have h2 : j < m.length := by rw [Hmk.out]; exact hlt
        obtain ⟨b, off, rfl, hc⟩ := (hv.up hB).cellAt (k := j) (by omega) (by omega)
        obtain ⟨b', off', rfl, hc'⟩ := (hu.up hB).cellAt (k := j) (by omega) (by omega)
        rw [by8_get l j h1] at hc
        rw [by8_get m j h2] at hc'
        have hj0 : (0 : Int) ≤ ↑j := by omega
        have hjn : (↑j : Int) < ↑n := by omega
        by_cases he : l[j] = m[j]
        · have he' : ((l[j].toNat : Int) != (m[j].toNat : Int)) = false := by rw [he]; simp
          have He := Lib.hid he; clear he
          generalize hX : (l[j].toNat : Int) = X at *
          generalize hY : (m[j].toNat : Int) = Y at *
          go_wp2
          refine wp_region_abv (by kernel_rfl) (by kernel_rfl) ?_
          have C1 : ∀ t : Abv wr, t.val.cell? ⟨b, off + j, none⟩ = some (.int .u8 X) := fun t => t.cell _ _ hc
          have C2 : ∀ t : Abv wr, t.val.cell? ⟨b', off' + j, none⟩ = some (.int .u8 Y) := fun t => t.cell _ _ hc'
          repeat (go_big_quiet_step (fail))
          refine wpQuiet_nil ?_
          rintro _ ⟨t, rfl⟩
          go_wp2
          go_roundw
          case rel =>
            refine ⟨j + 1, by omega, by go_num, ?_, below_up hB t.prop⟩
            rw [Oct.take_snoc l j h1, Oct.take_snoc m j h2, Hpre.out, He.out]
          case measure => simp [intOf]; omega
        · have he' : ((l[j].toNat : Int) != (m[j].toNat : Int)) = true := by
            simp only [bne_iff_ne, ne_eq]; intro h; exact he (UInt8.toNat_inj.1 (by omega))
          have He := Lib.hid he; clear he
          generalize hX : (l[j].toNat : Int) = X at *
          generalize hY : (m[j].toNat : Int) = Y at *
          go_wp2
          refine wp_region_abv (by kernel_rfl) (by kernel_rfl) ?_
          have C1 : ∀ t : Abv wr, t.val.cell? ⟨b, off + j, none⟩ = some (.int .u8 X) := fun t => t.cell _ _ hc
          have C2 : ∀ t : Abv wr, t.val.cell? ⟨b', off' + j, none⟩ = some (.int .u8 Y) := fun t => t.cell _ _ hc'
          repeat (go_big_quiet_step (fail))
          refine wpQuiet_nil ?_
          rintro _ ⟨t, rfl⟩
          go_wp2
          go_ret
          refine ⟨retB (Eq.symm (decide_eq_false ?_)), below_up hB t.prop⟩
          intro h
          subst h
          exact He.out rfl
      · obtain rfl : j = n := by omega
        have hlm : l = m := by
          have := Hpre.out
          rwa [List.take_of_length_le (by rw [Hln.out]; exact Nat.le_refl _), List.take_of_length_le (by rw [Hmk.out]; exact Nat.le_refl _)] at this
        have Hlm := Lib.hid hlm; clear hlm
        go_wp2
        go_ret
        exact ⟨retB (Eq.symm (decide_eq_true Hlm.out)), hB⟩
  · have hne : l ≠ m := by intro h; subst h; omega
    have Hne := Lib.hid hne; clear hne
    have hd : ((n : Int) != (k : Int)) = true := by simp; omega
    have hd2 : (n != k) = true := by simp; omega
    clear hnk
    go_enter Tryd.func98, Tryd.ntmps98
    go_wp2
    go_ret
    exact ⟨retB (Eq.symm (decide_eq_false Hne.out)), Below.refl _ _⟩

namespace Oct
def beginsB (l m : List UInt8) : Bool := decide (m.length ≤ l.length) && decide (l.take m.length = m)
end Oct

/-- Bytes in memory of the law's own, with 77 behind. -/
def Lent (w : World) (base : Nat) (v : Value) (n : Nat) (l : List UInt8) : Prop :=
  ∃ g cap, v = .slice (some ⟨g, 0, none⟩) n cap ∧ base ≤ g ∧ w.ownsRow base 5 1 (.slice (some ⟨g, 0, none⟩) (n + 1) cap) (n + 1) (by8 (l ++ [77]))

theorem Lent.sl1 {w : World} {base : Nat} {v : Value} {n : Nat} {l : List UInt8} (h : Lent w base v n l) : ∃ g cap, v = .slice (some ⟨g, 0, none⟩) n cap ∧ Sl w 1 (.slice (some ⟨g, 0, none⟩) (n + 1) cap) (n + 1) (by8 (l ++ [77])) := by
  obtain ⟨g, cap, rfl, _, h⟩ := h
  exact ⟨g, cap, rfl, Sl.of_own h⟩
theorem Lent.sl {w : World} {base : Nat} {v : Value} {n : Nat} {l : List UInt8} (h : Lent w base v n l) : Sl w 1 v n (by8 l) := by
  obtain ⟨g, cap, hv, hs⟩ := h.sl1
  clear h
  subst hv
  obtain ⟨hl, ⟨a', c', e, h0⟩ | ⟨b, off, cap', e, hn', hm, hc⟩⟩ := hs
  · omega
  · simp only [Value.slice.injEq, Option.some.injEq, Addr.mk.injEq] at e
    obtain ⟨⟨rfl, rfl, _⟩, _, rfl⟩ := e
    have hn : l.length = n := by simp [by8_len] at hl; exact hl
    refine ⟨by rw [by8_len]; omega, .inr ⟨g, 0, cap, rfl, by omega, hm, fun j u hj => hc j u ?_⟩⟩
    rw [by8_app, List.getElem?_append_left (List.getElem?_eq_some_iff.1 hj).1]
    exact hj

end Go.Proofs.YtpfgepgjpnekdaaDoor
