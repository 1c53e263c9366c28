/-
  OctetD: several texts in one (bundle.py).
-/
import Derived.Test.YtjenohodgpmchaaDoorCbK07
namespace Go.Proofs.YtjenohodgpmchaaDoor
open Go.RowKit
set_option linter.unusedSimpArgs false
set_option linter.unusedVariables false

namespace Oct
def getV (l : List UInt8) : Int := if okW l.length then beV l else 0
def getE (l : List UInt8) : Int := if okW l.length then 0 else 2
theorem take_snoc (l : List UInt8) (k : Nat) (h : k < l.length) : l.take (k + 1) = l.take k ++ [l[k]] := by rw [List.take_succ_eq_append_getElem h]
theorem beV_take (l : List UInt8) (k : Nat) (h : k < l.length) : beV (l.take (k + 1)) = beV (l.take k) * 256 + (l[k].toNat : Int) := by rw [take_snoc l k h, beV_snoc]
theorem pow_mono {a b : Nat} (h : a ≤ b) : (256 : Int) ^ a ≤ 256 ^ b := by
  have := Int.ofNat_le.2 (Nat.pow_le_pow_right (show 0 < 256 by decide) h)
  rw [Int.natCast_pow, Int.natCast_pow] at this
  exact this
theorem beV_take_b (l : List UInt8) (k : Nat) (hk : k ≤ 8) : 0 ≤ beV (l.take k) ∧ (k < 8 → beV (l.take k) < 72057594037927936) ∧ beV (l.take k) < 18446744073709551616 := by
  have h0 := beV_lo (l.take k)
  have h1 := beV_hi (l.take k)
  have hl : (l.take k).length ≤ k := List.length_take_le _ _
  refine ⟨h0, fun h => ?_, ?_⟩
  · have := pow_mono (show (l.take k).length ≤ 7 by omega)
    have e : (256 : Int) ^ 7 = 72057594037927936 := by decide
    omega
  · have := pow_mono (show (l.take k).length ≤ 8 by omega)
    have e : (256 : Int) ^ 8 = 18446744073709551616 := by decide
    omega
end Oct
theorem or_byte (x c : Int) (hx0 : 0 ≤ x) (hx : x < 72057594037927936) (hc0 : 0 ≤ c) (hc : c < 256) : bits BinOp.or IntKind.u64 (x * 256) c = x * 256 + c := by
  have h := bits_or_u64_nat (x * 256).toNat c.toNat (by omega) (by omega)
  rw [Int.toNat_of_nonneg (by omega), Int.toNat_of_nonneg hc0] at h
  rw [h]
  have e : (x * 256).toNat = x.toNat <<< 8 := by rw [Nat.shiftLeft_eq]; omega
  rw [e, ← Nat.shiftLeft_add_eq_or_of_lt (by omega : c.toNat < 2 ^ 8), Nat.shiftLeft_eq]
  omega

theorem number_field (x y : Value) (w : World) : (Instr.field 110 (.agg #[x, y]) 0).run Tryd.prog w = .ok x w := by kernel_rfl

theorem get_bad_c (l : List UInt8) (v : Value) (n : Nat) (w : World) (hv : Sl w 1 v n (by8 l)) (hw : Oct.okW n = false) :
    Calls Tryd.prog 57 #[v] w fun e w' => e = .returned (.tuple #[.int .u64 0, .int .i64 2]) ∧ Below w.heap.size w w' := by
  have Hw := Lib.hid hw; clear hw
  obtain ⟨a1, c1, rfl⟩ := hv.len
  have hfld := number_field
  go_enter Tryd.func57, Tryd.ntmps57
  go_wp2_with (go_at_call 72; refine (is_c _ _).mono ?_; rw [Hw.out]; rintro e w1 ⟨rfl, hb⟩)
  go_ret2
  exact ⟨rfl, hb⟩

theorem get_ok_c (l : List UInt8) (v : Value) (n : Nat) (w : World) (hv : Sl w 1 v n (by8 l)) (hw : Oct.okW n = true) :
    Calls Tryd.prog 57 #[v] w fun e w' => e = .returned (.tuple #[.int .u64 (Oct.beV l), .int .i64 0]) ∧ Below w.heap.size w w' := by
  have Hw := Lib.hid hw
  have hn8 : n ≤ 8 := by have := Oct.okW_cases hw; omega
  have hln := hv.n_len
  have Hln := Lib.hid hln
  clear hw hln
  obtain ⟨a1, c1, rfl⟩ := hv.len
  have hfld := number_field
  go_enter Tryd.func57, Tryd.ntmps57
  go_wp2_with (go_at_call 72; refine (is_c _ _).mono ?_; rw [Hw.out]; rintro e w1 ⟨rfl, hb⟩)
  go_loop [4, 15] (fun m i => ∃ k : Nat, k ≤ n ∧ i = .int .i64 k ∧ m = .int .u64 (Oct.beV (l.take k))) (fun _ i => n - (intOf i).toNat)
  case atStart => exact ⟨0, Nat.zero_le _, rfl, rfl⟩
  case round =>
    obtain ⟨k, hk, rfl, rfl⟩ := hrel
    obtain ⟨b0, b1, b2⟩ := Oct.beV_take_b l k (by omega)
    by_cases hlt : k < n
    · have hlt' : k < l.length := by rw [Hln.out]; exact hlt
      obtain ⟨b, off, rfl, hc⟩ := (hv.up hb).cellAt (k := k) (by omega) (by omega)
      rw [by8_get l k hlt'] at hc
      have hx := b1 (by omega)
      have Hs := Lib.hid (Oct.beV_take l k hlt')
      have hb8 : (l[k].toNat : Int) < 256 := by have := l[k].toNat_lt; omega
      have Ho := Lib.hid (or_byte (Oct.beV (l.take k)) (l[k].toNat : Int) b0 hx (by omega) hb8)
      generalize hX : Oct.beV (l.take k) = X at *
      generalize hY : (l[k].toNat : Int) = Y at *
      go_wp2
      go_round
      case rel => exact ⟨k + 1, by omega, by go_num, by rw [Ho.out, Hs.out]⟩
      case measure => simp [intOf]; omega
    · obtain rfl : k = n := by omega
      have ht : l.take k = l := List.take_of_length_le (by rw [Hln.out]; exact Nat.le_refl _)
      have Ht := Lib.hid ht
      clear ht
      go_wp2
      go_ret2
      exact ⟨by rw [Ht.out]; rfl, hb⟩

theorem getR_bad_c (l : List UInt8) (v : Value) (n : Nat) (w : World) (hv : Sl w 1 v n (by8 l)) (hw : Oct.okW n = false) :
    Calls Tryd.prog 60 #[v] w fun e w' => e = .returned (.tuple #[.int .u64 0, .int .i64 2]) ∧ w = w' := by
  have Hw := Lib.hid hw; clear hw
  obtain ⟨a1, c1, rfl⟩ := hv.len
  go_enter Tryd.func60, Tryd.ntmps60
  go_wp2_with (go_at_call 71; refine (widthR_c _ _).mono ?_; rw [Hw.out]; rintro e w1 ⟨rfl, rfl⟩)
  go_ret2
  exact ⟨rfl, rfl⟩

theorem getR_ok_c (l : List UInt8) (v : Value) (n : Nat) (w : World) (hv : Sl w 1 v n (by8 l)) (hw : Oct.okW n = true) :
    Calls Tryd.prog 60 #[v] w fun e w' => e = .returned (.tuple #[.int .u64 (Oct.beV l), .int .i64 0]) ∧ w = w' := by
  have Hw := Lib.hid hw
  have hn8 : n ≤ 8 := by have := Oct.okW_cases hw; omega
  have hln := hv.n_len
  have Hln := Lib.hid hln
  clear hw hln
  obtain ⟨a1, c1, rfl⟩ := hv.len
  go_enter Tryd.func60, Tryd.ntmps60
  go_wp2_with (go_at_call 71; refine (widthR_c _ _).mono ?_; rw [Hw.out]; rintro e w1 ⟨rfl, rfl⟩)
  go_loop [4, 5] (fun m i => ∃ k : Nat, k ≤ n ∧ i = .int .i64 k ∧ m = .int .u64 (Oct.beV (l.take k))) (fun _ i => n - (intOf i).toNat)
  case atStart => exact ⟨0, Nat.zero_le _, rfl, rfl⟩
  case round =>
    obtain ⟨k, hk, rfl, rfl⟩ := hrel
    obtain ⟨b0, b1, b2⟩ := Oct.beV_take_b l k (by omega)
    by_cases hlt : k < n
    · have hlt' : k < l.length := by rw [Hln.out]; exact hlt
      obtain ⟨b, off, rfl, hc⟩ := hv.cellAt (k := k) (by omega) (by omega)
      rw [by8_get l k hlt'] at hc
      have hx := b1 (by omega)
      have Hs := Lib.hid (Oct.beV_take l k hlt')
      have hb8 : (l[k].toNat : Int) < 256 := by have := l[k].toNat_lt; omega
      have Ho := Lib.hid (or_byte (Oct.beV (l.take k)) (l[k].toNat : Int) b0 hx (by omega) hb8)
      generalize hX : Oct.beV (l.take k) = X at *
      generalize hY : (l[k].toNat : Int) = Y at *
      go_wp2
      go_round
      case rel => exact ⟨k + 1, by omega, by go_num, by rw [Ho.out, Hs.out]⟩
      case measure => simp [intOf]; omega
    · obtain rfl : k = n := by omega
      have ht : l.take k = l := List.take_of_length_le (by rw [Hln.out]; exact Nat.le_refl _)
      have Ht := Lib.hid ht
      clear ht
      go_wp2
      go_ret2
      exact ⟨by rw [Ht.out]; rfl, rfl⟩

/-- octet.Get. -/
theorem get_c (l : List UInt8) (v : Value) (n : Nat) (w : World) (hv : Sl w 1 v n (by8 l)) :
    Calls Tryd.prog 57 #[v] w (Ret (.tuple #[.int .u64 (Oct.getV l), .int .i64 (Oct.getE l)]) w) := by
  have hln := hv.n_len
  unfold Oct.getV Oct.getE
  rw [hln]
  cases hw : Oct.okW n with
  | false => exact get_bad_c l v n w hv hw
  | true => exact get_ok_c l v n w hv hw
theorem getR_c (l : List UInt8) (v : Value) (n : Nat) (w : World) (hv : Sl w 1 v n (by8 l)) :
    Calls Tryd.prog 60 #[v] w fun e w' => e = .returned (.tuple #[.int .u64 (Oct.getV l), .int .i64 (Oct.getE l)]) ∧ w = w' := by
  have hln := hv.n_len
  unfold Oct.getV Oct.getE
  rw [hln]
  cases hw : Oct.okW n with
  | false => exact getR_bad_c l v n w hv hw
  | true => exact getR_ok_c l v n w hv hw

namespace Oct
/-- The width that is looked at in round k of the reference's Least. -/
def w3 (k : Nat) : Int := match k with | 0 => 1 | 1 => 2 | _ => 4
theorem putE_small (n wd : Int) (hw : okW wd = true) : putE n wd = if fitsB wd n then 0 else 4 := by unfold putE; rw [hw]; rfl
end Oct

set_option maxHeartbeats 1000000 in
theorem leastR_c (n : Int) (w : World) (h0 : 0 ≤ n) (h1 : n ≤ 18446744073709551615) : Calls Tryd.prog 54 #[.int .u64 n] w (Ret (.int .i64 (Oct.leastF n)) w) := by
  have hB0 := below_alloc w (.cells #[.int .i64 1, .int .i64 2, .int .i64 4] 3)
  have c0 : (w.alloc (.cells #[.int .i64 1, .int .i64 2, .int .i64 4] 3)).cell? ⟨w.heap.size, 0, none⟩ = some (.int .i64 1) := by simp [go_sem]
  have c1 : (w.alloc (.cells #[.int .i64 1, .int .i64 2, .int .i64 4] 3)).cell? ⟨w.heap.size, 1, none⟩ = some (.int .i64 2) := by simp [go_sem]
  have c2 : (w.alloc (.cells #[.int .i64 1, .int .i64 2, .int .i64 4] 3)).cell? ⟨w.heap.size, 2, none⟩ = some (.int .i64 4) := by simp [go_sem]
  go_enter Tryd.func54, Tryd.ntmps54
  go_wp2
  go_loopw [4] (fun i wr => ∃ k : Nat, k ≤ 3 ∧ i = .int .i64 k ∧ (∀ j, j < k → Oct.fitsB (Oct.w3 j) n = false) ∧ Below w.heap.size w wr ∧ wr.cell? ⟨w.heap.size, 0, none⟩ = some (.int .i64 1) ∧ wr.cell? ⟨w.heap.size, 1, none⟩ = some (.int .i64 2) ∧ wr.cell? ⟨w.heap.size, 2, none⟩ = some (.int .i64 4)) (fun i _ => 3 - (intOf i).toNat)
  case atStart => exact ⟨0, Nat.zero_le _, rfl, by intro j hj; omega, hB0, c0, c1, c2⟩
  case round =>
    clear c0 c1 c2 hB0
    obtain ⟨k, hk, rfl, hno, hB, c0, c1, c2⟩ := hrel
    have Hno := Lib.hid hno; clear hno
    have hks : k = 0 ∨ k = 1 ∨ k = 2 ∨ k = 3 := by omega
    rcases hks with rfl | rfl | rfl | rfl
    · cases hf : Oct.fitsB 1 n with
      | true =>
        have He := Lib.hid (show Oct.putE n 1 = 0 by rw [Oct.putE_small n 1 rfl, hf]; rfl)
        have Hf := Lib.hid hf
        clear hf
        go_wp2_with (go_at_call 55; refine (putR_c n 1 _ h0 h1).mono ?_; rintro e w1 ⟨v1, rfl, _, hb⟩; rw [He.out]; have c0 := cell_up hb c0; have c1 := cell_up hb c1; have c2 := cell_up hb c2)
        go_ret
        refine ⟨retI ?_, below_up hB hb⟩
        have hn := Oct.fitsB_lt Hf.out
        simp at hn
        unfold Oct.leastF
        rw [if_pos hn]
      | false =>
        have He := Lib.hid (show Oct.putE n 1 = 4 by rw [Oct.putE_small n 1 rfl, hf]; rfl)
        have Hf := Lib.hid hf
        clear hf
        go_wp2_with (go_at_call 55; refine (putR_c n 1 _ h0 h1).mono ?_; rintro e w1 ⟨v1, rfl, _, hb⟩; rw [He.out]; have c0 := cell_up hb c0; have c1 := cell_up hb c1; have c2 := cell_up hb c2)
        go_roundw
        case rel =>
          refine ⟨1, by decide, by rfl, fun j hj => ?_, below_up hB hb, c0, c1, c2⟩
          rcases Nat.lt_or_ge j 0 with h | h
          · exact Hno.out j h
          · obtain rfl : j = 0 := by omega
            exact Hf.out
        case measure => simp [intOf]
    · cases hf : Oct.fitsB 2 n with
      | true =>
        have He := Lib.hid (show Oct.putE n 2 = 0 by rw [Oct.putE_small n 2 rfl, hf]; rfl)
        have Hf := Lib.hid hf
        clear hf
        go_wp2_with (go_at_call 55; refine (putR_c n 2 _ h0 h1).mono ?_; rintro e w1 ⟨v1, rfl, _, hb⟩; rw [He.out]; have c0 := cell_up hb c0; have c1 := cell_up hb c1; have c2 := cell_up hb c2)
        go_ret
        refine ⟨retI ?_, below_up hB hb⟩
        have hn := Oct.fitsB_lt Hf.out
        simp at hn
        have p0 := Hno.out 0 (by decide)
        simp [Oct.fitsB, Oct.w3] at p0
        unfold Oct.leastF
        rw [if_neg (by omega), if_pos hn]
      | false =>
        have He := Lib.hid (show Oct.putE n 2 = 4 by rw [Oct.putE_small n 2 rfl, hf]; rfl)
        have Hf := Lib.hid hf
        clear hf
        go_wp2_with (go_at_call 55; refine (putR_c n 2 _ h0 h1).mono ?_; rintro e w1 ⟨v1, rfl, _, hb⟩; rw [He.out]; have c0 := cell_up hb c0; have c1 := cell_up hb c1; have c2 := cell_up hb c2)
        go_roundw
        case rel =>
          refine ⟨2, by decide, by rfl, fun j hj => ?_, below_up hB hb, c0, c1, c2⟩
          rcases Nat.lt_or_ge j 1 with h | h
          · exact Hno.out j h
          · obtain rfl : j = 1 := by omega
            exact Hf.out
        case measure => simp [intOf]
    · cases hf : Oct.fitsB 4 n with
      | true =>
        have He := Lib.hid (show Oct.putE n 4 = 0 by rw [Oct.putE_small n 4 rfl, hf]; rfl)
        have Hf := Lib.hid hf
        clear hf
        go_wp2_with (go_at_call 55; refine (putR_c n 4 _ h0 h1).mono ?_; rintro e w1 ⟨v1, rfl, _, hb⟩; rw [He.out]; have c0 := cell_up hb c0; have c1 := cell_up hb c1; have c2 := cell_up hb c2)
        go_ret
        refine ⟨retI ?_, below_up hB hb⟩
        have hn := Oct.fitsB_lt Hf.out
        simp at hn
        have p0 := Hno.out 0 (by decide)
        simp [Oct.fitsB, Oct.w3] at p0
        have p1 := Hno.out 1 (by decide)
        simp [Oct.fitsB, Oct.w3] at p1
        unfold Oct.leastF
        rw [if_neg (by omega), if_neg (by omega), if_pos hn]
      | false =>
        have He := Lib.hid (show Oct.putE n 4 = 4 by rw [Oct.putE_small n 4 rfl, hf]; rfl)
        have Hf := Lib.hid hf
        clear hf
        go_wp2_with (go_at_call 55; refine (putR_c n 4 _ h0 h1).mono ?_; rintro e w1 ⟨v1, rfl, _, hb⟩; rw [He.out]; have c0 := cell_up hb c0; have c1 := cell_up hb c1; have c2 := cell_up hb c2)
        go_roundw
        case rel =>
          refine ⟨3, by decide, by rfl, fun j hj => ?_, below_up hB hb, c0, c1, c2⟩
          rcases Nat.lt_or_ge j 2 with h | h
          · exact Hno.out j h
          · obtain rfl : j = 2 := by omega
            exact Hf.out
        case measure => simp [intOf]
    · go_wp2
      go_ret
      refine ⟨retI ?_, hB⟩
      have p0 := Hno.out 0 (by decide)
      have p1 := Hno.out 1 (by decide)
      have p2 := Hno.out 2 (by decide)
      simp [Oct.fitsB, Oct.w3] at p0 p1 p2
      unfold Oct.leastF
      rw [if_neg (by omega), if_neg (by omega), if_neg (by omega)]
end Go.Proofs.YtjenohodgpmchaaDoor
