/-
  OctetD, OctetE, OctetF: several texts in one (bundle.py).
-/
import Derived.Test.YtpkonagjnfphkaaGreatDoorPmY03
import Derived.Lib.AppendZeros
set_option linter.unusedSimpArgs false
set_option linter.unusedVariables false
set_option maxRecDepth 100000
set_option maxHeartbeats 1000000
namespace Go.Proofs.YtpkonagjnfphkaaGreatDoor
open Go.RowKit
namespace Oct
def getV (l : List UInt8) : Int := if okW l.length then beV l else 0
def getE (l : List UInt8) : Int := if okW l.length then 0 else 2
theorem take_snoc (l : List UInt8) (k : Nat) (h : k < l.length) : l.take (k + 1) = l.take k ++ [l[k]] := by rw [List.take_succ_eq_append_getElem h]
theorem beV_take (l : List UInt8) (k : Nat) (h : k < l.length) : beV (l.take (k + 1)) = beV (l.take k) * 256 + (l[k].toNat : Int) := by rw [take_snoc l k h, beV_snoc]
theorem pow_mono {a b : Nat} (h : a ≤ b) : (256 : Int) ^ a ≤ 256 ^ b := by
  have := Int.ofNat_le.2 (Nat.pow_le_pow_right (show 0 < 256 by decide) h); rw [Int.natCast_pow, Int.natCast_pow] at this; exact this
theorem beV_take_b (l : List UInt8) (k : Nat) (hk : k ≤ 8) : 0 ≤ beV (l.take k) ∧ (k < 8 → beV (l.take k) < 72057594037927936) ∧ beV (l.take k) < 18446744073709551616 := by
  have h0 := beV_lo (l.take k); have h1 := beV_hi (l.take k); have hl : (l.take k).length ≤ k := List.length_take_le _ _; refine ⟨h0, fun h => ?_, ?_⟩
  · have := pow_mono (show (l.take k).length ≤ 7 by omega)
    have e : (256 : Int) ^ 7 = 72057594037927936 := by decide
    omega
  · have := pow_mono (show (l.take k).length ≤ 8 by omega)
    have e : (256 : Int) ^ 8 = 18446744073709551616 := by decide
    omega
end Oct
theorem or_byte (x c : Int) (hx0 : 0 ≤ x) (hx : x < 72057594037927936) (hc0 : 0 ≤ c) (hc : c < 256) : bits BinOp.or IntKind.u64 (x * 256) c = x * 256 + c := by
  have h := bits_or_u64_nat (x * 256).toNat c.toNat (by omega) (by omega); rw [Int.toNat_of_nonneg (by omega), Int.toNat_of_nonneg hc0] at h; rw [h]
  have e : (x * 256).toNat = x.toNat <<< 8 := by rw [Nat.shiftLeft_eq]; omega
  rw [e, ← Nat.shiftLeft_add_eq_or_of_lt (by omega : c.toNat < 2 ^ 8), Nat.shiftLeft_eq]; omega
theorem number_field (x y : Value) (w : World) : (Instr.field 156 (.agg #[x, y]) 0).run Tryz.prog w = .ok x w := by kernel_rfl
theorem get_bad_c (l : List UInt8) (v : Value) (n : Nat) (w : World) (hv : Sl w 1 v n (by8 l)) (hw : Oct.okW n = false) :
    Calls Tryz.prog 163 #[v] w fun e w' => e = .returned (.tuple #[.int .u64 0, .int .i64 2]) ∧ Below w.heap.size w w' := by
  have Hw := Lib.hid hw; clear hw; obtain ⟨a1, c1, rfl⟩ := hv.len; have hfld := number_field; go_enter Tryz.func163, Tryz.ntmps163
  go_wp2_with (go_at_call 118; refine (is_c _ _).mono ?_; rw [Hw.out]; rintro e w1 ⟨rfl, hb⟩)
  go_ret2
  exact ⟨rfl, hb⟩
theorem get_ok_c (l : List UInt8) (v : Value) (n : Nat) (w : World) (hv : Sl w 1 v n (by8 l)) (hw : Oct.okW n = true) :
    Calls Tryz.prog 163 #[v] w fun e w' => e = .returned (.tuple #[.int .u64 (Oct.beV l), .int .i64 0]) ∧ Below w.heap.size w w' := by
  have Hw := Lib.hid hw
  have hn8 : n ≤ 8 := by have := Oct.okW_cases hw; omega
  have hln := hv.n_len; have Hln := Lib.hid hln; clear hw hln; obtain ⟨a1, c1, rfl⟩ := hv.len; have hfld := number_field; go_enter Tryz.func163, Tryz.ntmps163
  go_wp2_with (go_at_call 118; refine (is_c _ _).mono ?_; rw [Hw.out]; rintro e w1 ⟨rfl, hb⟩)
  go_loop [4, 15] (fun m i => ∃ k : Nat, k ≤ n ∧ i = .int .i64 k ∧ m = .int .u64 (Oct.beV (l.take k))) (fun _ i => n - (intOf i).toNat)
  case atStart => exact ⟨0, Nat.zero_le _, rfl, rfl⟩
  case round =>
    obtain ⟨k, hk, rfl, rfl⟩ := hrel; obtain ⟨b0, b1, b2⟩ := Oct.beV_take_b l k (by omega); by_cases hlt : k < n
    · have hlt' : k < l.length := by rw [Hln.out]; exact hlt
      obtain ⟨b, off, rfl, hc⟩ := (hv.up hb).cellAt (k := k) (by omega) (by omega); rw [by8_get l k hlt'] at hc; have hx := b1 (by omega); have Hs := Lib.hid (Oct.beV_take l k hlt')
      have hb8 : (l[k].toNat : Int) < 256 := by have := l[k].toNat_lt; omega
      have Ho := Lib.hid (or_byte (Oct.beV (l.take k)) (l[k].toNat : Int) b0 hx (by omega) hb8); generalize hX : Oct.beV (l.take k) = X at *; generalize hY : (l[k].toNat : Int) = Y at *; go_wp2
      go_round
      case rel => exact ⟨k + 1, by omega, by go_num, by rw [Ho.out, Hs.out]⟩
      case measure => simp [intOf]; omega
    · obtain rfl : k = n := by omega
      have ht : l.take k = l := List.take_of_length_le (by rw [Hln.out]; exact Nat.le_refl _); have Ht := Lib.hid ht; clear ht; go_wp2
      go_ret2
      exact ⟨by rw [Ht.out]; rfl, hb⟩
theorem getR_bad_c (l : List UInt8) (v : Value) (n : Nat) (w : World) (hv : Sl w 1 v n (by8 l)) (hw : Oct.okW n = false) :
    Calls Tryz.prog 168 #[v] w fun e w' => e = .returned (.tuple #[.int .u64 0, .int .i64 2]) ∧ w = w' := by
  have Hw := Lib.hid hw; clear hw; obtain ⟨a1, c1, rfl⟩ := hv.len; go_enter Tryz.func168, Tryz.ntmps168
  go_wp2_with (go_at_call 128; refine (widthR_c _ _).mono ?_; rw [Hw.out]; rintro e w1 ⟨rfl, rfl⟩)
  go_ret2
  exact ⟨rfl, rfl⟩
theorem getR_ok_c (l : List UInt8) (v : Value) (n : Nat) (w : World) (hv : Sl w 1 v n (by8 l)) (hw : Oct.okW n = true) :
    Calls Tryz.prog 168 #[v] w fun e w' => e = .returned (.tuple #[.int .u64 (Oct.beV l), .int .i64 0]) ∧ w = w' := by
  have Hw := Lib.hid hw
  have hn8 : n ≤ 8 := by have := Oct.okW_cases hw; omega
  have hln := hv.n_len; have Hln := Lib.hid hln; clear hw hln; obtain ⟨a1, c1, rfl⟩ := hv.len; go_enter Tryz.func168, Tryz.ntmps168
  go_wp2_with (go_at_call 128; refine (widthR_c _ _).mono ?_; rw [Hw.out]; rintro e w1 ⟨rfl, rfl⟩)
  go_loop [4, 5] (fun m i => ∃ k : Nat, k ≤ n ∧ i = .int .i64 k ∧ m = .int .u64 (Oct.beV (l.take k))) (fun _ i => n - (intOf i).toNat)
  case atStart => exact ⟨0, Nat.zero_le _, rfl, rfl⟩
  case round =>
    obtain ⟨k, hk, rfl, rfl⟩ := hrel; obtain ⟨b0, b1, b2⟩ := Oct.beV_take_b l k (by omega); by_cases hlt : k < n
    · have hlt' : k < l.length := by rw [Hln.out]; exact hlt
      obtain ⟨b, off, rfl, hc⟩ := hv.cellAt (k := k) (by omega) (by omega); rw [by8_get l k hlt'] at hc; have hx := b1 (by omega); have Hs := Lib.hid (Oct.beV_take l k hlt')
      have hb8 : (l[k].toNat : Int) < 256 := by have := l[k].toNat_lt; omega
      have Ho := Lib.hid (or_byte (Oct.beV (l.take k)) (l[k].toNat : Int) b0 hx (by omega) hb8); generalize hX : Oct.beV (l.take k) = X at *; generalize hY : (l[k].toNat : Int) = Y at *; go_wp2
      go_round
      case rel => exact ⟨k + 1, by omega, by go_num, by rw [Ho.out, Hs.out]⟩
      case measure => simp [intOf]; omega
    · obtain rfl : k = n := by omega
      have ht : l.take k = l := List.take_of_length_le (by rw [Hln.out]; exact Nat.le_refl _); have Ht := Lib.hid ht; clear ht; go_wp2
      go_ret2
      exact ⟨by rw [Ht.out]; rfl, rfl⟩
theorem get_c (l : List UInt8) (v : Value) (n : Nat) (w : World) (hv : Sl w 1 v n (by8 l)) :
    Calls Tryz.prog 163 #[v] w (Ret (.tuple #[.int .u64 (Oct.getV l), .int .i64 (Oct.getE l)]) w) := by
  have hln := hv.n_len; unfold Oct.getV Oct.getE; rw [hln]
  cases hw : Oct.okW n with
  | false => exact get_bad_c l v n w hv hw
  | true => exact get_ok_c l v n w hv hw
theorem getR_c (l : List UInt8) (v : Value) (n : Nat) (w : World) (hv : Sl w 1 v n (by8 l)) :
    Calls Tryz.prog 168 #[v] w fun e w' => e = .returned (.tuple #[.int .u64 (Oct.getV l), .int .i64 (Oct.getE l)]) ∧ w = w' := by
  have hln := hv.n_len; unfold Oct.getV Oct.getE; rw [hln]
  cases hw : Oct.okW n with
  | false => exact getR_bad_c l v n w hv hw
  | true => exact getR_ok_c l v n w hv hw
namespace Oct
def w3 (k : Nat) : Int := match k with | 0 => 1 | 1 => 2 | _ => 4
theorem putE_small (n wd : Int) (hw : okW wd = true) : putE n wd = if fitsB wd n then 0 else 4 := by unfold putE; rw [hw]; rfl
end Oct
theorem leastR_c (n : Int) (w : World) (h0 : 0 ≤ n) (h1 : n ≤ 18446744073709551615) : Calls Tryz.prog 110 #[.int .u64 n] w (Ret (.int .i64 (Oct.leastF n)) w) := by
  have hB0 := below_alloc w (.cells #[.int .i64 1, .int .i64 2, .int .i64 4] 3)
  have c0 : (w.alloc (.cells #[.int .i64 1, .int .i64 2, .int .i64 4] 3)).cell? ⟨w.heap.size, 0, none⟩ = some (.int .i64 1) := by simp [go_sem]
  have c1 : (w.alloc (.cells #[.int .i64 1, .int .i64 2, .int .i64 4] 3)).cell? ⟨w.heap.size, 1, none⟩ = some (.int .i64 2) := by simp [go_sem]
  have c2 : (w.alloc (.cells #[.int .i64 1, .int .i64 2, .int .i64 4] 3)).cell? ⟨w.heap.size, 2, none⟩ = some (.int .i64 4) := by simp [go_sem]
  go_enter Tryz.func110, Tryz.ntmps110; go_wp2
  go_loopw [4] (fun i wr => ∃ k : Nat, k ≤ 3 ∧ i = .int .i64 k ∧ (∀ j, j < k → Oct.fitsB (Oct.w3 j) n = false) ∧ Below w.heap.size w wr ∧ wr.cell? ⟨w.heap.size, 0, none⟩ = some (.int .i64 1) ∧ wr.cell? ⟨w.heap.size, 1, none⟩ = some (.int .i64 2) ∧ wr.cell? ⟨w.heap.size, 2, none⟩ = some (.int .i64 4)) (fun i _ => 3 - (intOf i).toNat)
  case atStart => exact ⟨0, Nat.zero_le _, rfl, by intro j hj; omega, hB0, c0, c1, c2⟩
  case round =>
    clear c0 c1 c2 hB0; obtain ⟨k, hk, rfl, hno, hB, c0, c1, c2⟩ := hrel; have Hno := Lib.hid hno; clear hno
    have hks : k = 0 ∨ k = 1 ∨ k = 2 ∨ k = 3 := by omega
    rcases hks with rfl | rfl | rfl | rfl
    · cases hf : Oct.fitsB 1 n with
      | true =>
        have He := Lib.hid (show Oct.putE n 1 = 0 by rw [Oct.putE_small n 1 rfl, hf]; rfl); have Hf := Lib.hid hf; clear hf
        go_wp2_with (go_at_call 104; refine (putR_c n 1 _ h0 h1).mono ?_; rintro e w1 ⟨v1, rfl, _, hb⟩; rw [He.out]; have c0 := cell_up hb c0; have c1 := cell_up hb c1; have c2 := cell_up hb c2)
        go_ret; refine ⟨retI ?_, below_up hB hb⟩; have hn := Oct.fitsB_lt Hf.out; simp at hn; unfold Oct.leastF; rw [if_pos hn]
      | false =>
        have He := Lib.hid (show Oct.putE n 1 = 4 by rw [Oct.putE_small n 1 rfl, hf]; rfl); have Hf := Lib.hid hf; clear hf
        go_wp2_with (go_at_call 104; refine (putR_c n 1 _ h0 h1).mono ?_; rintro e w1 ⟨v1, rfl, _, hb⟩; rw [He.out]; have c0 := cell_up hb c0; have c1 := cell_up hb c1; have c2 := cell_up hb c2)
        go_roundw
        case rel =>
          refine ⟨1, by decide, by rfl, fun j hj => ?_, below_up hB hb, c0, c1, c2⟩; rcases Nat.lt_or_ge j 0 with h | h
          · exact Hno.out j h
          · obtain rfl : j = 0 := by omega
            exact Hf.out
        case measure => simp [intOf]
    · cases hf : Oct.fitsB 2 n with
      | true =>
        have He := Lib.hid (show Oct.putE n 2 = 0 by rw [Oct.putE_small n 2 rfl, hf]; rfl); have Hf := Lib.hid hf; clear hf
        go_wp2_with (go_at_call 104; refine (putR_c n 2 _ h0 h1).mono ?_; rintro e w1 ⟨v1, rfl, _, hb⟩; rw [He.out]; have c0 := cell_up hb c0; have c1 := cell_up hb c1; have c2 := cell_up hb c2)
        go_ret; refine ⟨retI ?_, below_up hB hb⟩; have hn := Oct.fitsB_lt Hf.out; simp at hn; have p0 := Hno.out 0 (by decide); simp [Oct.fitsB, Oct.w3] at p0; unfold Oct.leastF; rw [if_neg (by omega), if_pos hn]
      | false =>
        have He := Lib.hid (show Oct.putE n 2 = 4 by rw [Oct.putE_small n 2 rfl, hf]; rfl); have Hf := Lib.hid hf; clear hf
        go_wp2_with (go_at_call 104; refine (putR_c n 2 _ h0 h1).mono ?_; rintro e w1 ⟨v1, rfl, _, hb⟩; rw [He.out]; have c0 := cell_up hb c0; have c1 := cell_up hb c1; have c2 := cell_up hb c2)
        go_roundw
        case rel =>
          refine ⟨2, by decide, by rfl, fun j hj => ?_, below_up hB hb, c0, c1, c2⟩; rcases Nat.lt_or_ge j 1 with h | h
          · exact Hno.out j h
          · obtain rfl : j = 1 := by omega
            exact Hf.out
        case measure => simp [intOf]
    · cases hf : Oct.fitsB 4 n with
      | true =>
        have He := Lib.hid (show Oct.putE n 4 = 0 by rw [Oct.putE_small n 4 rfl, hf]; rfl); have Hf := Lib.hid hf; clear hf
        go_wp2_with (go_at_call 104; refine (putR_c n 4 _ h0 h1).mono ?_; rintro e w1 ⟨v1, rfl, _, hb⟩; rw [He.out]; have c0 := cell_up hb c0; have c1 := cell_up hb c1; have c2 := cell_up hb c2)
        go_ret; refine ⟨retI ?_, below_up hB hb⟩; have hn := Oct.fitsB_lt Hf.out; simp at hn; have p0 := Hno.out 0 (by decide); simp [Oct.fitsB, Oct.w3] at p0; have p1 := Hno.out 1 (by decide); simp [Oct.fitsB, Oct.w3] at p1; unfold Oct.leastF; rw [if_neg (by omega), if_neg (by omega), if_pos hn]
      | false =>
        have He := Lib.hid (show Oct.putE n 4 = 4 by rw [Oct.putE_small n 4 rfl, hf]; rfl); have Hf := Lib.hid hf; clear hf
        go_wp2_with (go_at_call 104; refine (putR_c n 4 _ h0 h1).mono ?_; rintro e w1 ⟨v1, rfl, _, hb⟩; rw [He.out]; have c0 := cell_up hb c0; have c1 := cell_up hb c1; have c2 := cell_up hb c2)
        go_roundw
        case rel =>
          refine ⟨3, by decide, by rfl, fun j hj => ?_, below_up hB hb, c0, c1, c2⟩; rcases Nat.lt_or_ge j 2 with h | h
          · exact Hno.out j h
          · obtain rfl : j = 2 := by omega
            exact Hf.out
        case measure => simp [intOf]
    · go_wp2
      go_ret; refine ⟨retI ?_, hB⟩; have p0 := Hno.out 0 (by decide); have p1 := Hno.out 1 (by decide); have p2 := Hno.out 2 (by decide); simp [Oct.fitsB, Oct.w3] at p0 p1 p2; unfold Oct.leastF; rw [if_neg (by omega), if_neg (by omega), if_neg (by omega)]
theorem equalB_c (l m : List UInt8) (v u : Value) (n k : Nat) (w : World) (hv : Sl w 1 v n (by8 l)) (hu : Sl w 1 u k (by8 m)) (hn : n ≤ 140737488351233) :
    Calls Tryz.prog 61 #[v, u] w (Ret (.bool (decide (l = m))) w) := by
  have hln := hv.n_len; have hmk := hu.n_len; obtain ⟨a, c, rfl⟩ := hv.len; obtain ⟨a', c', rfl⟩ := hu.len; by_cases hnk : n = k
  · subst hnk
    have Hln := Lib.hid hln; clear hln; have Hmk := Lib.hid hmk; clear hmk; go_enter Tryz.func61, Tryz.ntmps61; go_wp2
    go_loopw [13] (fun i wr => ∃ j : Nat, j ≤ n ∧ i = .int .i64 j ∧ l.take j = m.take j ∧ Below w.heap.size w wr) (fun i _ => n - (intOf i).toNat)
    case atStart => exact ⟨0, Nat.zero_le _, rfl, rfl, Below.refl _ _⟩
    case round =>
      obtain ⟨j, hj, rfl, hpre, hB⟩ := hrel; have Hpre := Lib.hid hpre; clear hpre; by_cases hlt : j < n
      · have h1 : j < l.length := by rw [Hln.out]; exact hlt
        have h2 : j < m.length := by rw [Hmk.out]; exact hlt
        obtain ⟨b, off, rfl, hc⟩ := (hv.up hB).cellAt (k := j) (by omega) (by omega); obtain ⟨b', off', rfl, hc'⟩ := (hu.up hB).cellAt (k := j) (by omega) (by omega); rw [by8_get l j h1] at hc; rw [by8_get m j h2] at hc'
        have hj0 : (0 : Int) ≤ ↑j := by omega
        have hjn : (↑j : Int) < ↑n := by omega
        by_cases he : l[j] = m[j]
        · have he' : ((l[j].toNat : Int) != (m[j].toNat : Int)) = false := by rw [he]; simp
          have He := Lib.hid he; clear he; generalize hX : (l[j].toNat : Int) = X at *; generalize hY : (m[j].toNat : Int) = Y at *; go_wp2; refine wp_region_abv (by kernel_rfl) (by kernel_rfl) ?_
          have C1 : ∀ t : Abv wr, t.val.cell? ⟨b, off + j, none⟩ = some (.int .u8 X) := fun t => t.cell _ _ hc
          have C2 : ∀ t : Abv wr, t.val.cell? ⟨b', off' + j, none⟩ = some (.int .u8 Y) := fun t => t.cell _ _ hc'
          repeat (go_big_quiet_step (fail))
          refine wpQuiet_nil ?_; rintro _ ⟨t, rfl⟩; go_wp2
          go_roundw
          case rel =>
            refine ⟨j + 1, by omega, by go_num, ?_, below_up hB t.prop⟩; rw [Oct.take_snoc l j h1, Oct.take_snoc m j h2, Hpre.out, He.out]
          case measure => simp [intOf]; omega
        · have he' : ((l[j].toNat : Int) != (m[j].toNat : Int)) = true := by
            simp only [bne_iff_ne, ne_eq]; intro h; exact he (UInt8.toNat_inj.1 (by omega))
          have He := Lib.hid he; clear he; generalize hX : (l[j].toNat : Int) = X at *; generalize hY : (m[j].toNat : Int) = Y at *; go_wp2; refine wp_region_abv (by kernel_rfl) (by kernel_rfl) ?_
          have C1 : ∀ t : Abv wr, t.val.cell? ⟨b, off + j, none⟩ = some (.int .u8 X) := fun t => t.cell _ _ hc
          have C2 : ∀ t : Abv wr, t.val.cell? ⟨b', off' + j, none⟩ = some (.int .u8 Y) := fun t => t.cell _ _ hc'
          repeat (go_big_quiet_step (fail))
          refine wpQuiet_nil ?_; rintro _ ⟨t, rfl⟩; go_wp2; go_ret; refine ⟨retB (Eq.symm (decide_eq_false ?_)), below_up hB t.prop⟩; intro h; subst h; exact He.out rfl
      · obtain rfl : j = n := by omega
        have hlm : l = m := by
          have := Hpre.out
          rwa [List.take_of_length_le (by rw [Hln.out]; exact Nat.le_refl _), List.take_of_length_le (by rw [Hmk.out]; exact Nat.le_refl _)] at this
        have Hlm := Lib.hid hlm; clear hlm; go_wp2; go_ret; exact ⟨retB (Eq.symm (decide_eq_true Hlm.out)), hB⟩
  · have hne : l ≠ m := by intro h; subst h; omega
    have Hne := Lib.hid hne; clear hne
    have hd : ((n : Int) != (k : Int)) = true := by simp; omega
    have hd2 : (n != k) = true := by simp; omega
    clear hnk; go_enter Tryz.func61, Tryz.ntmps61; go_wp2; go_ret; exact ⟨retB (Eq.symm (decide_eq_false Hne.out)), Below.refl _ _⟩
namespace Oct
def beginsB (l m : List UInt8) : Bool := decide (m.length ≤ l.length) && decide (l.take m.length = m)
end Oct
theorem begins_c (l m : List UInt8) (v u : Value) (n k : Nat) (w : World) (hv : Sl w 1 v n (by8 l)) (hu : Sl w 1 u k (by8 m)) (hn : n ≤ 140737488351233) :
    Calls Tryz.prog 144 #[v, u] w (Ret (.bool (Oct.beginsB l m)) w) := by
  have hln := hv.n_len; have hmk := hu.n_len; unfold Oct.beginsB; rw [hln, hmk]; obtain ⟨a, c, rfl⟩ := hv.len; obtain ⟨a', c', rfl⟩ := hu.len; by_cases hk : k ≤ n
  · rw [decide_eq_true hk, Bool.true_and]
    obtain ⟨a2, hsl, hs⟩ := cut_h slT_u8 hv k hk; rw [Nat.mul_one, ← by8_take] at hs
    have hk' : (k : Int) ≤ (n : Int) := by omega
    clear hln hmk; go_enter Tryz.func144, Tryz.ntmps144
    go_wp2_with (go_at_call 61; refine (equalB_c (l.take k) m _ _ k k _ hs hu (by omega)).mono ?_; rintro e w1 ⟨rfl, hb⟩)
    go_ret; exact ⟨rfl, hb⟩
  · rw [decide_eq_false hk, Bool.false_and]
    have hd : decide (k ≤ n) = false := decide_eq_false hk
    have hk' : ¬ (k : Int) ≤ (n : Int) := by omega
    clear hln hmk; go_enter Tryz.func144, Tryz.ntmps144; go_wp2; go_ret; exact ⟨rfl, Below.refl _ _⟩
def Lent (w : World) (base : Nat) (v : Value) (n : Nat) (l : List UInt8) : Prop :=
  ∃ g cap, v = .slice (some ⟨g, 0, none⟩) n cap ∧ base ≤ g ∧ w.ownsRow base 5 1 (.slice (some ⟨g, 0, none⟩) (n + 1) cap) (n + 1) (by8 (l ++ [77]))
theorem Lent.sl1 {w : World} {base : Nat} {v : Value} {n : Nat} {l : List UInt8} (h : Lent w base v n l) : ∃ g cap, v = .slice (some ⟨g, 0, none⟩) n cap ∧ Sl w 1 (.slice (some ⟨g, 0, none⟩) (n + 1) cap) (n + 1) (by8 (l ++ [77])) := by
  obtain ⟨g, cap, rfl, _, h⟩ := h; exact ⟨g, cap, rfl, Sl.of_own h⟩
theorem Lent.sl {w : World} {base : Nat} {v : Value} {n : Nat} {l : List UInt8} (h : Lent w base v n l) : Sl w 1 v n (by8 l) := by
  obtain ⟨g, cap, hv, hs⟩ := h.sl1; clear h; subst hv; obtain ⟨hl, ⟨a', c', e, h0⟩ | ⟨b, off, cap', e, hn', hm, hc⟩⟩ := hs
  · omega
  · simp only [Value.slice.injEq, Option.some.injEq, Addr.mk.injEq] at e
    obtain ⟨⟨rfl, rfl, _⟩, _, rfl⟩ := e
    have hn : l.length = n := by simp [by8_len] at hl; exact hl
    refine ⟨by rw [by8_len]; omega, .inr ⟨g, 0, cap, rfl, by omega, hm, fun j u hj => hc j u ?_⟩⟩; rw [by8_app, List.getElem?_append_left (List.getElem?_eq_some_iff.1 hj).1]; exact hj
theorem growB_c (n : Nat) (w : World) (hn : n ≤ 140737488355328) :
    Calls Tryz.prog 185 #[.slice none 0 0, .int .i64 n] w fun e w' => ∃ v', e = .returned v' ∧ w'.ownsRow w.heap.size 5 1 v' 0 [] ∧ Below w.heap.size w w' := by
  by_cases h0 : n = 0
  · subst h0
    go_enter Tryz.func185, Tryz.ntmps185; go_wp2; go_ret; exact ⟨_, rfl, World.ownsRow_nil _ _ _ _, Below.refl _ _⟩
  · have hp : (0 : Int) < n := by omega
    obtain ⟨i, hi, hz, hsz, hby⟩ := info_parts (show (Tryz.prog.info? 5).map (fun i => (i.zero, i.size, i.bytes)) = some (some (.int .u8 0), 1, 1) by kernel_rfl); have hge := grownCap_ge w n 0 5; have hle := grownCap_le_maxLen w n 0 5 (by simp only [maxLen]; omega)
    have hsl0 : ∀ (w' : World), (Instr.slice 48 (.slice none 0 0) none (some (.int .i64 0)) none).run Tryz.prog w' = .ok (.slice none 0 0) w' := fun w' => run_cut_h slT_u8 none 0 0 0 .i64 (Nat.le_refl _) w'
    go_enter Tryz.func185, Tryz.ntmps185
    go_wp2_with (at_builtin; refine Lib.wpList_append_run _ rfl (.tmp 20) (.tmp 21) _ _ rfl _ _ rfl rfl _ _ (Lib.run_append_nil_zeros _ 48 3 _ 5 i (.int .u8 0) .i64 .i64 Tryz.underlying48 Tryz.underlying3 hi hz n (by omega) (by rw [hsz]; decide) (by omega) (by rw [hby]; omega)) ?_)
    go_ret; generalize grownCap w n 0 5 = cap at *; refine ⟨_, rfl, ⟨rfl, .inr ⟨w.heap.size, cap, _, rfl, Nat.le_refl _, heap_alloc_new w _, Nat.zero_le _, hle, ?_, rfl⟩⟩, (below_alloc _ _).drew⟩; rw [Array.size_append, size_zeroCells, size_zeroCells]; simp [Value.cells]; omega
structure SlB (w : World) (v : Value) (n : Nat) (vs : List Value) (ls : List (List UInt8)) : Prop where
  out : Sl w 1 v n vs
  len : vs.length = ls.length
  each : ∀ (i : Nat) (u : Value) (l : List UInt8), vs[i]? = some u → ls[i]? = some l → Sl w 1 u l.length (by8 l)
theorem SlB.up {w w' : World} {v : Value} {n : Nat} {vs : List Value} {ls : List (List UInt8)} (h : SlB w v n vs ls) (hb : Below w.heap.size w w') : SlB w' v n vs ls :=
  ⟨h.out.up hb, h.len, fun i u l h1 h2 => (h.each i u l h1 h2).up hb⟩
theorem SlB.n_len {w : World} {v : Value} {n : Nat} {vs : List Value} {ls : List (List UInt8)} (h : SlB w v n vs ls) : ls.length = n := by have := h.out.1; have := h.len; omega
theorem SlB.at_ {w : World} {a : Option Addr} {n c : Nat} {vs : List Value} {ls : List (List UInt8)} (h : SlB w (.slice a n c) n vs ls) {k : Nat} (hk : k < n) (hk' : k < ls.length) :
    ∃ b off a' c', a = some ⟨b, off, none⟩ ∧ w.cell? ⟨b, off + k, none⟩ = some (.slice a' ls[k].length c') ∧ Sl w 1 (.slice a' ls[k].length c') ls[k].length (by8 ls[k]) := by
  have hl := h.len
  have hv : k < vs.length := by omega
  obtain ⟨b, off, ha, hc⟩ := h.out.cellAt (k := k) (by omega) (by omega); have hs := h.each k vs[k] ls[k] (List.getElem?_eq_getElem hv) (List.getElem?_eq_getElem hk'); obtain ⟨a', c', e⟩ := hs.len; rw [List.getElem?_eq_getElem hv, e] at hc; rw [e] at hs; exact ⟨b, off, a', c', ha, hc, hs⟩
namespace Oct
theorem flat_take (ls : List (List UInt8)) (k : Nat) (h : k < ls.length) : (ls.take (k + 1)).flatten = (ls.take k).flatten ++ ls[k] := by
  rw [List.take_succ_eq_append_getElem h, List.flatten_append]; simp
theorem flat_le (ls : List (List UInt8)) (k : Nat) : (ls.take k).flatten.length ≤ ls.flatten.length := by
  have : ls.flatten = (ls.take k).flatten ++ (ls.drop k).flatten := by rw [← List.flatten_append, List.take_append_drop]
  rw [this, List.length_append]; omega
end Oct
theorem concatB_c (ls : List (List UInt8)) (vs : List Value) (v : Value) (n : Nat) (w : World) (hv : SlB w v n vs ls) (hn : n ≤ 140737488355328) (ht : ls.flatten.length ≤ 140737488355328) :
    Calls Tryz.prog 182 #[v] w fun e w' => ∃ v', e = .returned v' ∧ w'.ownsRow w.heap.size 5 1 v' ls.flatten.length (by8 ls.flatten) ∧ Below w.heap.size w w' := by
  have hln := hv.n_len; have Hln := Lib.hid hln; clear hln; obtain ⟨a, c, rfl⟩ := hv.out.len; go_enter Tryz.func182, Tryz.ntmps182; go_wp2
  go_loop [3, 11] (fun s i => ∃ k : Nat, k ≤ n ∧ i = .int .i64 k ∧ s = .int .i64 ((ls.take k).flatten.length : Nat)) (fun _ i => n - (intOf i).toNat)
  case atStart => exact ⟨0, Nat.zero_le _, rfl, rfl⟩
  case round =>
    obtain ⟨k, hk, rfl, rfl⟩ := hrel; by_cases hlt : k < n
    · have hlt' : k < ls.length := by rw [Hln.out]; exact hlt
      obtain ⟨b, off, a', c', rfl, hc, hs⟩ := hv.at_ hlt hlt'; have hle := Oct.flat_le ls (k + 1); have hf := Oct.flat_take ls k hlt'; rw [hf, List.length_append] at hle; have Hf := Lib.hid (show (ls.take (k + 1)).flatten.length = (ls.take k).flatten.length + ls[k].length by rw [hf, List.length_append]); clear hf; generalize hX : (ls.take k).flatten.length = X at *; generalize hY : ls[k].length = Y at *; clear hX hY; go_wp2
      go_round
      case rel => exact ⟨k + 1, by omega, by go_num, by rw [Hf.out]; go_num⟩
      case measure => simp [intOf]; omega
    · obtain rfl : k = n := by omega
      have hall : ls.take k = ls := List.take_of_length_le (by rw [Hln.out]; exact Nat.le_refl _); have Hall := Lib.hid hall; rw [hall]; clear hall; generalize hX : ls.flatten.length = X at *; have HX := Lib.hid hX; clear hX
      go_wp2_with (go_at_call 185; refine (growB_c X _ ht).mono ?_; rintro e w1 ⟨v1, rfl, hown, hb⟩)
      go_loopw [6, 27] (fun o i wr => ∃ j : Nat, j ≤ k ∧ i = .int .i64 j ∧ wr.ownsRow w.heap.size 5 1 o (ls.take j).flatten.length (by8 (ls.take j).flatten) ∧ Below w.heap.size w wr) (fun _ i _ => k - (intOf i).toNat)
      case atStart => exact ⟨0, Nat.zero_le _, rfl, hown, hb⟩
      case round =>
        obtain ⟨j, hj, rfl, ho, hB⟩ := hrel; by_cases hlt2 : j < k
        · have hlt' : j < ls.length := by rw [Hln.out]; exact hlt2
          obtain ⟨b, off, a', c', rfl, hc, hs⟩ := (hv.up hB).at_ hlt2 hlt'; have hle := Oct.flat_le ls (j + 1); have hf := Oct.flat_take ls j hlt'; rw [hf, List.length_append, HX.out] at hle; have Hf := Lib.hid hf; clear hf
          go_wp2_with (at_builtin; refine wpList_app rfl _ _ 48 rfl slT_u8 w.heap.size rfl ho rfl hs (one_by8 _) (by simp only [maxLen]; omega) (by omega) hB.size ?_; intro v' w2 hown2 hgrow _)
          go_roundw
          case rel => exact ⟨j + 1, by omega, by go_num, by rw [Hf.out, by8_app, List.length_append]; exact hown2, grown_below hB hgrow (fun q hq => (ho.lt q hq).1)⟩
          case measure => simp [intOf]; omega
        · obtain rfl : j = k := by omega
          rw [Hall.out] at ho; go_wp2; go_ret; exact ⟨_, rfl, by rw [← HX.out]; exact ho, hB⟩
theorem join_c (ls : List (List UInt8)) (vs : List Value) (v : Value) (n : Nat) (w : World) (hv : SlB w v n vs ls) (hn : n ≤ 140737488355328) (ht : ls.flatten.length ≤ 140737488355328) :
    Calls Tryz.prog 171 #[v] w fun e w' => ∃ v', e = .returned v' ∧ w'.ownsRow w.heap.size 5 1 v' ls.flatten.length (by8 ls.flatten) ∧ Below w.heap.size w w' := by
  go_enter Tryz.func171, Tryz.ntmps171
  go_wp2_with (go_at_call 182; refine (concatB_c ls vs v n _ hv hn ht).mono ?_; rintro e w1 ⟨v1, rfl, hown, hb⟩)
  go_ret; exact ⟨_, rfl, hown, hb⟩
end Go.Proofs.YtpkonagjnfphkaaGreatDoor
