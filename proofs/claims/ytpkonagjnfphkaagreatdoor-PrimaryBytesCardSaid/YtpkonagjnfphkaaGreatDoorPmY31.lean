/-
  PrT, PrQ, PrW: several texts in one (bundle.py).
-/
import Derived.Test.YtpkonagjnfphkaaGreatDoorPmY25
import Derived.Test.YtpkonagjnfphkaaGreatDoorPmY21
import Derived.Test.YtpkonagjnfphkaaGreatDoorPmY24
import Derived.Test.YtpkonagjnfphkaaGreatDoorPmY29
import Derived.Test.YtpkonagjnfphkaaGreatDoorPmY07
set_option linter.unusedSimpArgs false
set_option linter.unusedVariables false
set_option maxRecDepth 100000
set_option maxHeartbeats 2000000
namespace Go.Proofs.YtpkonagjnfphkaaGreatDoor
open Go.RowKit Trc
namespace Prm
theorem bit_and (f i : Nat) : (f &&& 2 ^ i != 0) = decide (f / 2 ^ i % 2 = 1) := by
  rw [← Nat.testBit_eq_decide_div_mod_eq]
  cases h : f.testBit i with
  | true =>
    rw [bne_iff_ne]; intro e; have h2 := congrArg (fun x => x.testBit i) e; simp [Nat.testBit_and, h, Nat.testBit_two_pow_self] at h2
  | false =>
    have : f &&& 2 ^ i = 0 := by
      apply Nat.eq_of_testBit_eq; intro j; rw [Nat.testBit_and, Nat.zero_testBit, Nat.testBit_two_pow]; by_cases hj : i = j
      · subst hj; simp [h]
      · simp [hj]
    rw [this]; rfl
theorem or32 (f q : Nat) (hf : f < 4294967296) (hq : q < 4294967296) : bits .or .u32 (f : Int) (q : Int) = ((f ||| q : Nat) : Int) := by
  have e1 : BitVec.ofInt 32 (f : Int) = BitVec.ofNat 32 f := by simp
  have e2 : BitVec.ofInt 32 (q : Int) = BitVec.ofNat 32 q := by simp
  show IntKind.u32.wrap _ = _; rw [IntKind.wrap_u32]; rw [show (BitVec.ofInt IntKind.u32.bits (f : Int)) = BitVec.ofNat 32 f from e1, show (BitVec.ofInt IntKind.u32.bits (q : Int)) = BitVec.ofNat 32 q from e2]; show ((BitVec.ofNat 32 f ||| BitVec.ofNat 32 q).toNat : Int) % 4294967296 = _; have h := (BitVec.ofNat 32 f ||| BitVec.ofNat 32 q).isLt
  have h2 : (BitVec.ofNat 32 f ||| BitVec.ofNat 32 q).toNat = f ||| q := by
    rw [BitVec.toNat_or, BitVec.toNat_ofNat, BitVec.toNat_ofNat, Nat.mod_eq_of_lt hf, Nat.mod_eq_of_lt hq]
  omega
theorem has2 (f : Nat) : (f &&& 2 != 0) = decide (f / 2 % 2 = 1) := bit_and f 1
def baseN (r : Int) : Nat := if 0 ≤ r ∧ r ≤ 2 then 128 * r.toNat else 0
def flagsN (r : Int) (l : List Nat) : Nat := baseN r + (if 2 ∈ l then 2 else 0) + (if 32 ∈ l then 32 else 0)
theorem base_of (r : Int) : baseN r = 0 ∨ baseN r = 128 ∨ baseN r = 256 := by
  unfold baseN; split
  · omega
  · exact .inl rfl
theorem flagsN_lt (r : Int) (l : List Nat) : flagsN r l ≤ 290 := by
  unfold flagsN; have := base_of r
  split <;> split <;> omega
theorem flagsN_or (r : Int) (l : List Nat) (q : Nat) (hq : q = 2 ∨ q = 32) : flagsN r l ||| q = flagsN r (l ++ [q]) := by
  unfold flagsN
  rcases base_of r with h | h | h <;> rw [h] <;> rcases hq with rfl | rfl <;> by_cases h2 : 2 ∈ l <;> by_cases h3 : 32 ∈ l <;> simp [h2, h3]
theorem flagsN_no (r : Int) (l : List Nat) (q : Nat) (h2 : q ≠ 2) (h3 : q ≠ 32) : flagsN r (l ++ [q]) = flagsN r l := by
  unfold flagsN
  have e1 : (2 ∈ l ++ [q]) ↔ 2 ∈ l := by simp; omega
  have e2 : (32 ∈ l ++ [q]) ↔ 32 ∈ l := by simp; omega
  simp only [e1, e2]
end Prm
theorem rFlagsRight_c (f : Nat) (hf : f < 4294967296) (w : World) : Calls Tryz.prog 37 #[.int .u32 f] w (Ret (.bool (Prm.flagsB f)) w) := by
  unfold Prm.flagsB; by_cases h1 : f ≤ 418
  · have d1 : decide ((f : Int) ≤ 418) = true := decide_eq_true (by omega)
    by_cases hk0 : f % 128 = 0
    · have d2 : decide ((f : Int) % 128 ≤ 34) = true := decide_eq_true (by omega)
      have e0 : ((f : Int) % 128 == 0) = true := by rw [beq_iff_eq]; omega
      have e2 : ((f : Int) % 128 == 2) = false := by rw [beq_eq_false_iff_ne]; omega
      have e32 : ((f : Int) % 128 == 32) = false := by rw [beq_eq_false_iff_ne]; omega
      have e34 : ((f : Int) % 128 == 34) = false := by rw [beq_eq_false_iff_ne]; omega
      by_cases h3 : f / 128 ≤ 2
      · have d3 : decide ((f : Int) / 128 ≤ 2) = true := decide_eq_true (by omega)
        rw [decide_eq_true (show f ≤ 418 ∧ (f % 128 = 0 ∨ f % 128 = 2 ∨ f % 128 = 32 ∨ f % 128 = 34) ∧ f / 128 ≤ 2 by omega)]; clear h1 h3 hk0; go_enter Tryz.func37, Tryz.ntmps37; go_wp2; go_ret; exact ⟨rfl, Below.refl _ _⟩
      · have d3 : decide ((f : Int) / 128 ≤ 2) = false := decide_eq_false (by omega)
        rw [decide_eq_false (show ¬ (f ≤ 418 ∧ (f % 128 = 0 ∨ f % 128 = 2 ∨ f % 128 = 32 ∨ f % 128 = 34) ∧ f / 128 ≤ 2) by omega)]; clear h1 h3 hk0; go_enter Tryz.func37, Tryz.ntmps37; go_wp2; go_ret; exact ⟨rfl, Below.refl _ _⟩
    by_cases hk2 : f % 128 = 2
    · have d2 : decide ((f : Int) % 128 ≤ 34) = true := decide_eq_true (by omega)
      have e0 : ((f : Int) % 128 == 0) = false := by rw [beq_eq_false_iff_ne]; omega
      have e2 : ((f : Int) % 128 == 2) = true := by rw [beq_iff_eq]; omega
      have e32 : ((f : Int) % 128 == 32) = false := by rw [beq_eq_false_iff_ne]; omega
      have e34 : ((f : Int) % 128 == 34) = false := by rw [beq_eq_false_iff_ne]; omega
      by_cases h3 : f / 128 ≤ 2
      · have d3 : decide ((f : Int) / 128 ≤ 2) = true := decide_eq_true (by omega)
        rw [decide_eq_true (show f ≤ 418 ∧ (f % 128 = 0 ∨ f % 128 = 2 ∨ f % 128 = 32 ∨ f % 128 = 34) ∧ f / 128 ≤ 2 by omega)]; clear h1 h3 hk2; go_enter Tryz.func37, Tryz.ntmps37; go_wp2; go_ret; exact ⟨rfl, Below.refl _ _⟩
      · have d3 : decide ((f : Int) / 128 ≤ 2) = false := decide_eq_false (by omega)
        rw [decide_eq_false (show ¬ (f ≤ 418 ∧ (f % 128 = 0 ∨ f % 128 = 2 ∨ f % 128 = 32 ∨ f % 128 = 34) ∧ f / 128 ≤ 2) by omega)]; clear h1 h3 hk2; go_enter Tryz.func37, Tryz.ntmps37; go_wp2; go_ret; exact ⟨rfl, Below.refl _ _⟩
    by_cases hk32 : f % 128 = 32
    · have d2 : decide ((f : Int) % 128 ≤ 34) = true := decide_eq_true (by omega)
      have e0 : ((f : Int) % 128 == 0) = false := by rw [beq_eq_false_iff_ne]; omega
      have e2 : ((f : Int) % 128 == 2) = false := by rw [beq_eq_false_iff_ne]; omega
      have e32 : ((f : Int) % 128 == 32) = true := by rw [beq_iff_eq]; omega
      have e34 : ((f : Int) % 128 == 34) = false := by rw [beq_eq_false_iff_ne]; omega
      by_cases h3 : f / 128 ≤ 2
      · have d3 : decide ((f : Int) / 128 ≤ 2) = true := decide_eq_true (by omega)
        rw [decide_eq_true (show f ≤ 418 ∧ (f % 128 = 0 ∨ f % 128 = 2 ∨ f % 128 = 32 ∨ f % 128 = 34) ∧ f / 128 ≤ 2 by omega)]; clear h1 h3 hk32; go_enter Tryz.func37, Tryz.ntmps37; go_wp2; go_ret; exact ⟨rfl, Below.refl _ _⟩
      · have d3 : decide ((f : Int) / 128 ≤ 2) = false := decide_eq_false (by omega)
        rw [decide_eq_false (show ¬ (f ≤ 418 ∧ (f % 128 = 0 ∨ f % 128 = 2 ∨ f % 128 = 32 ∨ f % 128 = 34) ∧ f / 128 ≤ 2) by omega)]; clear h1 h3 hk32; go_enter Tryz.func37, Tryz.ntmps37; go_wp2; go_ret; exact ⟨rfl, Below.refl _ _⟩
    by_cases hk34 : f % 128 = 34
    · have d2 : decide ((f : Int) % 128 ≤ 34) = true := decide_eq_true (by omega)
      have e0 : ((f : Int) % 128 == 0) = false := by rw [beq_eq_false_iff_ne]; omega
      have e2 : ((f : Int) % 128 == 2) = false := by rw [beq_eq_false_iff_ne]; omega
      have e32 : ((f : Int) % 128 == 32) = false := by rw [beq_eq_false_iff_ne]; omega
      have e34 : ((f : Int) % 128 == 34) = true := by rw [beq_iff_eq]; omega
      by_cases h3 : f / 128 ≤ 2
      · have d3 : decide ((f : Int) / 128 ≤ 2) = true := decide_eq_true (by omega)
        rw [decide_eq_true (show f ≤ 418 ∧ (f % 128 = 0 ∨ f % 128 = 2 ∨ f % 128 = 32 ∨ f % 128 = 34) ∧ f / 128 ≤ 2 by omega)]; clear h1 h3 hk34; go_enter Tryz.func37, Tryz.ntmps37; go_wp2; go_ret; exact ⟨rfl, Below.refl _ _⟩
      · have d3 : decide ((f : Int) / 128 ≤ 2) = false := decide_eq_false (by omega)
        rw [decide_eq_false (show ¬ (f ≤ 418 ∧ (f % 128 = 0 ∨ f % 128 = 2 ∨ f % 128 = 32 ∨ f % 128 = 34) ∧ f / 128 ≤ 2) by omega)]; clear h1 h3 hk34; go_enter Tryz.func37, Tryz.ntmps37; go_wp2; go_ret; exact ⟨rfl, Below.refl _ _⟩
    have hno : ¬ (f ≤ 418 ∧ (f % 128 = 0 ∨ f % 128 = 2 ∨ f % 128 = 32 ∨ f % 128 = 34) ∧ f / 128 ≤ 2) := by omega
    rw [decide_eq_false hno]
    have e0 : ((f : Int) % 128 == 0) = false := by rw [beq_eq_false_iff_ne]; omega
    have e2 : ((f : Int) % 128 == 2) = false := by rw [beq_eq_false_iff_ne]; omega
    have e32 : ((f : Int) % 128 == 32) = false := by rw [beq_eq_false_iff_ne]; omega
    have e34 : ((f : Int) % 128 == 34) = false := by rw [beq_eq_false_iff_ne]; omega
    by_cases h2 : f % 128 ≤ 34
    · have d2 : decide ((f : Int) % 128 ≤ 34) = true := decide_eq_true (by omega)
      clear h1 h2 hno hk0 hk2 hk32 hk34; go_enter Tryz.func37, Tryz.ntmps37; go_wp2; go_ret; exact ⟨rfl, Below.refl _ _⟩
    · have d2 : decide ((f : Int) % 128 ≤ 34) = false := decide_eq_false (by omega)
      clear h1 h2 hno hk0 hk2 hk32 hk34; go_enter Tryz.func37, Tryz.ntmps37; go_wp2; go_ret; exact ⟨rfl, Below.refl _ _⟩
  · have d1 : decide ((f : Int) ≤ 418) = false := decide_eq_false (by omega)
    rw [decide_eq_false (fun h => h1 h.1)]; clear h1; go_enter Tryz.func37, Tryz.ntmps37; go_wp2; go_ret; exact ⟨rfl, Below.refl _ _⟩
def Prm.rankN (f : Nat) : Nat := if Prm.flagsB f = true then f / 128 else 0
theorem prRank_c (p : Prm.Pr) (hf : p.flags < 4294967296) (w : World) : Calls Tryz.prog 18 #[prV p] w (Ret (.int .i64 (Prm.rankN p.flags : Nat)) w) := by
  have X0 := RowAt.new w (prC p).toArray 28; have hB := below_alloc w (.cells (prC p).toArray 28); have x0 := X0.cell (i := 0) rfl; have x1 := X0.cell (i := 1) rfl; have x2 := X0.cell (i := 2) rfl; have x3 := X0.cell (i := 3) rfl; have x4 := X0.cell (i := 4) rfl; have x5 := X0.cell (i := 5) rfl; have x6 := X0.cell (i := 6) rfl; have x7 := X0.cell (i := 7) rfl; have x8 := X0.cell (i := 8) rfl; have x9 := X0.cell (i := 9) rfl; have x10 := X0.cell (i := 10) rfl; have hc := prFlags_c p hf (w.alloc (.cells (prC p).toArray 28))
  have hd : ((p.flags : Int).tdiv 128) = ((p.flags / 128 : Nat) : Int) := by rw [Int.tdiv_eq_ediv_of_nonneg (by omega)]; omega
  have hw : IntKind.i64.wrap ((p.flags : Int) / 128) = ((p.flags / 128 : Nat) : Int) := by rw [IntKind.wrap_i64]; omega
  unfold Prm.rankN
  cases hh : Prm.flagsB p.flags with
  | true =>
    rw [hh] at hc; clear hh; go_enter Tryz.func18, Tryz.ntmps18
    go_wp2_with (go_at_call 36; refine hc.mono ?_; rintro en w1 ⟨rfl, hb1⟩; have y0 := (X0.below hb1).cell (i := 0) rfl)
    go_ret; exact ⟨retI (by first | omega | (rw [if_pos rfl]; omega)), below_up hB hb1⟩
  | false =>
    rw [hh] at hc; clear hh; go_enter Tryz.func18, Tryz.ntmps18
    go_wp2_with (go_at_call 36; refine hc.mono ?_; rintro en w1 ⟨rfl, hb1⟩; have y0 := (X0.below hb1).cell (i := 0) rfl)
    go_ret; exact ⟨rfl, below_up hB hb1⟩
theorem prExpires_c (p : Prm.Pr) (w : World) : Calls Tryz.prog 20 #[prV p] w (Ret (.int .u64 (Clk.addF p.time p.life)) w) := by
  have X0 := RowAt.new w (prC p).toArray 28; have hB := below_alloc w (.cells (prC p).toArray 28); have x8 := X0.cell (i := 8) rfl; have x10 := X0.cell (i := 10) rfl; have hc := ckadd_c (p.time : Int) (p.life : Int) (w.alloc (.cells (prC p).toArray 28)) (by omega) (by omega); go_enter Tryz.func20, Tryz.ntmps20
  go_wp2_with (go_at_call 38; refine hc.mono ?_; rintro en w1 ⟨rfl, hb1⟩)
  go_ret; exact ⟨rfl, below_up hB hb1⟩
theorem u32_at {w : World} {a : Option Addr} {c : Nat} {l : List Nat} (h : Sl w 1 (.slice a l.length c) l.length (l.map fun q : Nat => Value.int .u32 q)) {k : Nat} (hk : k < l.length) : ∃ b off, a = some ⟨b, off, none⟩ ∧ w.cell? ⟨b, off + k, none⟩ = some (.int .u32 l[k]) := by
  obtain ⟨b, off, e, h1⟩ := h.cellAt (k := k) (by omega) (by omega); exact ⟨b, off, e, by rw [h1, List.getElem?_map, List.getElem?_eq_getElem hk]; rfl⟩
theorem Prm.take_at {l : List Nat} {k : Nat} (hk : k < l.length) : l.take (k + 1) = l.take k ++ [l[k]] := List.take_succ_eq_append_getElem hk
theorem prFlagsOf_c (r : Int) (hr : -9223372036854775808 ≤ r ∧ r ≤ 9223372036854775807) (l : List Nat) (v : Value) (w : World) (hv : Sl w 1 v l.length (l.map fun q : Nat => Value.int .u32 q)) (hl : ∀ q ∈ l, q < 4294967296) : Calls Tryz.prog 16 #[.int .i64 r, v] w (Ret (.int .u32 (Prm.flagsN r l : Nat)) w) := by
  obtain ⟨a, c, rfl⟩ := hv.len; have HV := Lib.hid hv; have HL := Lib.hid hl
  have hw0 : ∀ k : Nat, k < 4294967296 → IntKind.u32.wrap (k : Int) = (k : Int) := fun k hk => by rw [IntKind.wrap_u32]; omega
  have hmx := hv.n_max; obtain ⟨n, hn⟩ : ∃ n, l.length = n := ⟨_, rfl⟩; have HN := Lib.hid hn; rw [hn] at HV hmx ⊢; clear hv hl hn; have hst : ∃ B : Nat, Prm.baseN r = B := ⟨_, rfl⟩; by_cases h0 : 0 ≤ r
  · have d0 : decide (0 ≤ r) = true := decide_eq_true h0
    have d01 : decide (r ≥ 0) = true := d0; by_cases h2 : r ≤ 2
    · have d2 : decide (r ≤ 2) = true := decide_eq_true h2
      have hw : IntKind.u32.wrap r = r := by rw [IntKind.wrap_u32]; omega
      have hw2 : IntKind.u32.wrap (r * 128) = r * 128 := by rw [IntKind.wrap_u32]; omega
      have hw3 : IntKind.i64.wrap (128 * r) = 128 * r := by rw [IntKind.wrap_i64]; omega
      have hw4 : IntKind.u32.wrap (128 * r) = 128 * r := by rw [IntKind.wrap_u32]; omega
      have HBS := Lib.hid (show ((Prm.baseN r : Nat) : Int) = r * 128 by unfold Prm.baseN; rw [if_pos ⟨h0, h2⟩]; omega); clear h0 h2; go_enter Tryz.func16, Tryz.ntmps16; go_wp2
      go_loopw [4, 18] (fun vn vi wr => ∃ k : Nat, vi = .int .i64 k ∧ k ≤ n ∧ vn = .int .u32 (Prm.flagsN r (l.take k) : Nat) ∧ Below w.heap.size w wr) (fun _ vi _ => n - (intOf vi).toNat)
      case atStart => exact ⟨0, rfl, Nat.zero_le _, by have h := HBS.out; unfold Prm.flagsN; simp only [List.take_zero, List.not_mem_nil, if_false, Nat.add_zero]; rw [h], Below.refl _ _⟩
      case round =>
        obtain ⟨k, rfl, hk, rfl, hB⟩ := hrel; by_cases hlt : k < n
        · have hkl : k < l.length := by rw [HN.out]; exact hlt
          have hv := HV.out.up hB; rw [← HN.out] at hv; obtain ⟨b, off, hab, hc⟩ := u32_at hv hkl; subst hab; rw [HN.out] at hv; have hT := Lib.hid (Prm.take_at hkl); have hq := HL.out _ (List.getElem_mem hkl); have hfl := Prm.flagsN_lt r (l.take k); have hor := Prm.or32 (Prm.flagsN r (l.take k)) l[k] (by omega) hq; have HQ2 := Lib.hid (Prm.flagsN_or r (l.take k) l[k]); have HQ3 := Lib.hid (Prm.flagsN_no r (l.take k) l[k]); generalize l[k] = q at *; obtain ⟨G, hG⟩ : ∃ G, Prm.flagsN r (l.take k) = G := ⟨_, rfl⟩; rw [hG] at hor hfl HQ2 HQ3 ⊢
          have hkn : (k : Int) < (n : Int) := by omega
          by_cases h2 : q = 2
          · subst h2
            have HO := Lib.hid (HQ2.out (.inl rfl)); have hor : bits .or .u32 (G : Int) 2 = ((G ||| 2 : Nat) : Int) := hor; clear hG hv; go_wp2
            go_roundw
            case rel => exact ⟨k + 1, by go_num, by omega, by rw [hT.out, ← HO.out], hB⟩
            case measure => simp [intOf]; omega
          · have e2 : ((q : Int) == 2) = false := by rw [beq_eq_false_iff_ne]; omega
            by_cases h3 : q = 32
            · subst h3
              have HO := Lib.hid (HQ2.out (.inr rfl)); have hor : bits .or .u32 (G : Int) 32 = ((G ||| 32 : Nat) : Int) := hor; clear hG hv h2; go_wp2
              go_roundw
              case rel => exact ⟨k + 1, by go_num, by omega, by rw [hT.out, ← HO.out], hB⟩
              case measure => simp [intOf]; omega
            · have e3 : ((q : Int) == 32) = false := by rw [beq_eq_false_iff_ne]; omega
              have HO := Lib.hid (HQ3.out h2 h3); clear hG hv h2 h3 hor; go_wp2
              go_roundw
              case rel => exact ⟨k + 1, by go_num, by omega, by rw [hT.out, HO.out], hB⟩
              case measure => simp [intOf]; omega
        · obtain rfl : k = n := by omega
          have HA := Lib.hid (show l.take k = l from List.take_of_length_le (by rw [HN.out]; exact Nat.le_refl _)); go_wp2; go_ret; exact ⟨by rw [HA.out]; rfl, hB⟩
    · have d2 : decide (r ≤ 2) = false := decide_eq_false h2
      have HBS := Lib.hid (show ((Prm.baseN r : Nat) : Int) = 0 by unfold Prm.baseN; rw [if_neg (fun h => h2 h.2)]; rfl); clear h0 h2; go_enter Tryz.func16, Tryz.ntmps16; go_wp2
      go_loopw [4, 18] (fun vn vi wr => ∃ k : Nat, vi = .int .i64 k ∧ k ≤ n ∧ vn = .int .u32 (Prm.flagsN r (l.take k) : Nat) ∧ Below w.heap.size w wr) (fun _ vi _ => n - (intOf vi).toNat)
      case atStart => exact ⟨0, rfl, Nat.zero_le _, by have h := HBS.out; unfold Prm.flagsN; simp only [List.take_zero, List.not_mem_nil, if_false, Nat.add_zero]; rw [h], Below.refl _ _⟩
      case round =>
        obtain ⟨k, rfl, hk, rfl, hB⟩ := hrel; by_cases hlt : k < n
        · have hkl : k < l.length := by rw [HN.out]; exact hlt
          have hv := HV.out.up hB; rw [← HN.out] at hv; obtain ⟨b, off, hab, hc⟩ := u32_at hv hkl; subst hab; rw [HN.out] at hv; have hT := Lib.hid (Prm.take_at hkl); have hq := HL.out _ (List.getElem_mem hkl); have hfl := Prm.flagsN_lt r (l.take k); have hor := Prm.or32 (Prm.flagsN r (l.take k)) l[k] (by omega) hq; have HQ2 := Lib.hid (Prm.flagsN_or r (l.take k) l[k]); have HQ3 := Lib.hid (Prm.flagsN_no r (l.take k) l[k]); generalize l[k] = q at *; obtain ⟨G, hG⟩ : ∃ G, Prm.flagsN r (l.take k) = G := ⟨_, rfl⟩; rw [hG] at hor hfl HQ2 HQ3 ⊢
          have hkn : (k : Int) < (n : Int) := by omega
          by_cases h2 : q = 2
          · subst h2
            have HO := Lib.hid (HQ2.out (.inl rfl)); have hor : bits .or .u32 (G : Int) 2 = ((G ||| 2 : Nat) : Int) := hor; clear hG hv; go_wp2
            go_roundw
            case rel => exact ⟨k + 1, by go_num, by omega, by rw [hT.out, ← HO.out], hB⟩
            case measure => simp [intOf]; omega
          · have e2 : ((q : Int) == 2) = false := by rw [beq_eq_false_iff_ne]; omega
            by_cases h3 : q = 32
            · subst h3
              have HO := Lib.hid (HQ2.out (.inr rfl)); have hor : bits .or .u32 (G : Int) 32 = ((G ||| 32 : Nat) : Int) := hor; clear hG hv h2; go_wp2
              go_roundw
              case rel => exact ⟨k + 1, by go_num, by omega, by rw [hT.out, ← HO.out], hB⟩
              case measure => simp [intOf]; omega
            · have e3 : ((q : Int) == 32) = false := by rw [beq_eq_false_iff_ne]; omega
              have HO := Lib.hid (HQ3.out h2 h3); clear hG hv h2 h3 hor; go_wp2
              go_roundw
              case rel => exact ⟨k + 1, by go_num, by omega, by rw [hT.out, HO.out], hB⟩
              case measure => simp [intOf]; omega
        · obtain rfl : k = n := by omega
          have HA := Lib.hid (show l.take k = l from List.take_of_length_le (by rw [HN.out]; exact Nat.le_refl _)); go_wp2; go_ret; exact ⟨by rw [HA.out]; rfl, hB⟩
  · have d0 : decide (0 ≤ r) = false := decide_eq_false h0
    have d01 : decide (r ≥ 0) = false := d0; have HBS := Lib.hid (show ((Prm.baseN r : Nat) : Int) = 0 by unfold Prm.baseN; rw [if_neg (fun h => h0 h.1)]; rfl); clear h0; go_enter Tryz.func16, Tryz.ntmps16; go_wp2
    go_loopw [4, 18] (fun vn vi wr => ∃ k : Nat, vi = .int .i64 k ∧ k ≤ n ∧ vn = .int .u32 (Prm.flagsN r (l.take k) : Nat) ∧ Below w.heap.size w wr) (fun _ vi _ => n - (intOf vi).toNat)
    case atStart => exact ⟨0, rfl, Nat.zero_le _, by have h := HBS.out; unfold Prm.flagsN; simp only [List.take_zero, List.not_mem_nil, if_false, Nat.add_zero]; rw [h], Below.refl _ _⟩
    case round =>
      obtain ⟨k, rfl, hk, rfl, hB⟩ := hrel; by_cases hlt : k < n
      · have hkl : k < l.length := by rw [HN.out]; exact hlt
        have hv := HV.out.up hB; rw [← HN.out] at hv; obtain ⟨b, off, hab, hc⟩ := u32_at hv hkl; subst hab; rw [HN.out] at hv; have hT := Lib.hid (Prm.take_at hkl); have hq := HL.out _ (List.getElem_mem hkl); have hfl := Prm.flagsN_lt r (l.take k); have hor := Prm.or32 (Prm.flagsN r (l.take k)) l[k] (by omega) hq; have HQ2 := Lib.hid (Prm.flagsN_or r (l.take k) l[k]); have HQ3 := Lib.hid (Prm.flagsN_no r (l.take k) l[k]); generalize l[k] = q at *; obtain ⟨G, hG⟩ : ∃ G, Prm.flagsN r (l.take k) = G := ⟨_, rfl⟩; rw [hG] at hor hfl HQ2 HQ3 ⊢
        have hkn : (k : Int) < (n : Int) := by omega
        by_cases h2 : q = 2
        · subst h2
          have HO := Lib.hid (HQ2.out (.inl rfl)); have hor : bits .or .u32 (G : Int) 2 = ((G ||| 2 : Nat) : Int) := hor; clear hG hv; go_wp2
          go_roundw
          case rel => exact ⟨k + 1, by go_num, by omega, by rw [hT.out, ← HO.out], hB⟩
          case measure => simp [intOf]; omega
        · have e2 : ((q : Int) == 2) = false := by rw [beq_eq_false_iff_ne]; omega
          by_cases h3 : q = 32
          · subst h3
            have HO := Lib.hid (HQ2.out (.inr rfl)); have hor : bits .or .u32 (G : Int) 32 = ((G ||| 32 : Nat) : Int) := hor; clear hG hv h2; go_wp2
            go_roundw
            case rel => exact ⟨k + 1, by go_num, by omega, by rw [hT.out, ← HO.out], hB⟩
            case measure => simp [intOf]; omega
          · have e3 : ((q : Int) == 32) = false := by rw [beq_eq_false_iff_ne]; omega
            have HO := Lib.hid (HQ3.out h2 h3); clear hG hv h2 h3 hor; go_wp2
            go_roundw
            case rel => exact ⟨k + 1, by go_num, by omega, by rw [hT.out, HO.out], hB⟩
            case measure => simp [intOf]; omega
      · obtain rfl : k = n := by omega
        have HA := Lib.hid (show l.take k = l from List.take_of_length_le (by rw [HN.out]; exact Nat.le_refl _)); go_wp2; go_ret; exact ⟨by rw [HA.out]; rfl, hB⟩
end Go.Proofs.YtpkonagjnfphkaaGreatDoor
namespace Go.Proofs.YtpkonagjnfphkaaGreatDoor
open Go.RowKit Trc Cb
theorem filled8 (a b c d e f g h : Rw) : Instr.fill (fun i => some (i * 5, 5)) ((Array.range (8 * 5)).map (zIt.cells[· % zIt.cells.size]!)) [(0, rwV a), (1, rwV b), (2, rwV c), (3, rwV d), (4, rwV e), (5, rwV f), (6, rwV g), (7, rwV h)] = some ([a, b, c, d, e, f, g, h].flatMap rwC).toArray := by kernel_rfl
def ItsE (L : List It) (w : World) (en : Ending) (w' : World) : Prop := ∃ v rows, en = .returned v ∧ w'.ownsRow w.heap.size 62 5 v L.length (rows.flatMap rwC) ∧ ItsR (fun k => w.heap.size ≤ k ∧ k < w'.heap.size) w' L rows ∧ Below w.heap.size w w'
theorem rItems_c (p : Prm.Pr) (hp : p.Ok) (hk : Prm.okPr p = true) (w : World) : Calls Tryz.prog 63 #[prV p] w (ItsE (Prm.prL p) w) := by
  obtain ⟨iI, hiI, hzI, hsI, _⟩ := infoIt; obtain ⟨_, hks, hkt, hkr, _, _⟩ := Prm.okPr_parts hk; obtain ⟨k, hkS⟩ : ∃ k : Nat, p.sum = (k : Int) := ⟨p.sum.toNat, by omega⟩; have HKS := Lib.hid (show p.sum.toNat = k by omega)
  have X0 : RowAt (w.alloc (.cells (prC p).toArray 28)) w.heap.size #[.int .u32 p.flags, .int .i64 k, .int .u32 p.toN, .int .u32 p.toS, .int .u32 p.srN, .int .u32 p.srS, .int .u32 p.rpN, .int .u32 p.rpS, .int .u64 p.time, .int .u32 p.seq, .int .u64 p.life] 28 := by
    have h := RowAt.new w (prC p).toArray 28; rw [← hkS]; exact h
  have HD0 := Lib.hid (below_alloc w (.cells (prC p).toArray 28)); have hf := hp.f; have hq := hp.q
  have hw0 : IntKind.u64.wrap (p.flags : Int) = (p.flags : Int) := by rw [IntKind.wrap_u64]; omega
  have hw1 : IntKind.u64.wrap (k : Int) = (k : Int) := by rw [IntKind.wrap_u64]; omega
  have hw9 : IntKind.u64.wrap (p.seq : Int) = (p.seq : Int) := by rw [IntKind.wrap_u64]; omega
  have HE := Lib.hid (show (p.toN = 0 → p.toS = 0) ∧ (p.srN = 0 → p.srS = 0) ∧ (p.rpN = 0 → p.rpS = 0) from ⟨fun h => absurd h hkt.1, fun h => absurd h hkt.2, fun h => by
    unfold Dig.chkP at hkr; split at hkr
    · cases hkr
    · rename_i h2; exact Classical.byContradiction fun h3 => h2 ⟨h, h3⟩⟩)
  have HKB := Lib.hid (show k < 18446744073709551616 by omega); clear hks hkt hkr hkS hf hq; go_enter Tryz.func63, Tryz.ntmps63; go_wp2; refine wp_region_ptL (fun _ => False) (.q 1 (.q 2 (.q 3 (.q 5 (.q 6 (.q 7 (.q 9 (.q 10 (.q 12 (.q 13 (.q 15 (.q 16 (.q 18 (.q 19 (.q 21 (.q 22 (.q 23 (.q 27 (.q 28 (.c 0 (.c 4 (.c 8 (.c 11 (.c 14 (.c 17 (.c 20 (.c 24 (.c 25 (.c 26 (.c 29 (.c 30 (.q 31 .done)))))))))))))))))))))))))))))))) (by kernel_rfl) (by kernel_rfl) (by kernel_rfl) (by decide) (fun _ _ d _ _ h => by cases d <;> exact h) (fun OPS HOP Wd hBd => ?_)
  try simp only [zq]
  have K0 := X0.below hBd; have k0 := RowAt.cell K0 (i := 0) rfl; have k1 := RowAt.cell K0 (i := 1) rfl; have k2 := RowAt.cell K0 (i := 2) rfl; have k3 := RowAt.cell K0 (i := 3) rfl; have k4 := RowAt.cell K0 (i := 4) rfl; have k5 := RowAt.cell K0 (i := 5) rfl; have k6 := RowAt.cell K0 (i := 6) rfl; have k7 := RowAt.cell K0 (i := 7) rfl; have k8 := RowAt.cell K0 (i := 8) rfl; have k9 := RowAt.cell K0 (i := 9) rfl; have k10 := RowAt.cell K0 (i := 10) rfl; refine zo HOP ?_; refine zog HOP (fun w' hBw' => hBw'.cell k0 (fun e => e)) ?_; refine zo HOP ?_; refine zo HOP ?_; refine zog HOP (fun w' hBw' => hBw'.cell k1 (fun e => e)) ?_; refine zo HOP ?_; refine zo HOP ?_; refine zoh HOP (fun w' hBw' => hBw'.cell k2 (fun e => e)) (fun w' hBw' => hBw'.cell k3 (fun e => e)) ?_; refine zo HOP ?_; refine zoh HOP (fun w' hBw' => hBw'.cell k4 (fun e => e)) (fun w' hBw' => hBw'.cell k5 (fun e => e)) ?_; refine zo HOP ?_
  refine zoh HOP (fun w' hBw' => hBw'.cell k6 (fun e => e)) (fun w' hBw' => hBw'.cell k7 (fun e => e)) ?_; refine zo HOP ?_; refine zog HOP (fun w' hBw' => hBw'.cell k8 (fun e => e)) ?_; refine zo HOP ?_; refine zog HOP (fun w' hBw' => hBw'.cell k9 (fun e => e)) ?_; refine zo HOP ?_; refine zo HOP ?_; refine zog HOP (fun w' hBw' => hBw'.cell k10 (fun e => e)) ?_
  refine zd HOP fun K hK => ?_
  go_simp; refine (rUint_c 7 _).mono ?_; rintro en w1 ⟨rfl, hb1⟩; refine hK.out _ _ (But.of_below hb1) ?_; clear hK K
  try simp only [zq]
  refine zd HOP fun K hK => ?_
  go_simp; refine (rUint_c p.flags _).mono ?_; rintro en w2 ⟨rfl, hb2⟩; refine hK.out _ _ (But.of_below hb2) ?_; clear hK K
  try simp only [zq]
  refine zd HOP fun K hK => ?_
  go_simp; refine (rUint_c k _).mono ?_; rintro en w3 ⟨rfl, hb3⟩; refine hK.out _ _ (But.of_below hb3) ?_; clear hK K
  try simp only [zq]
  refine zd HOP fun K hK => ?_
  go_simp; refine (rItem_c p.toN p.toS hp.tn hp.ts HE.out.1 _).mono ?_; rintro en w4 ⟨hb4, r4, rfl, hi4⟩; refine hK.out _ _ (But.of_below hb4) ?_; clear hK K
  try simp only [zq]
  refine zd HOP fun K hK => ?_
  go_simp; refine (rItem_c p.srN p.srS hp.sn hp.ss HE.out.2.1 _).mono ?_; rintro en w5 ⟨hb5, r5, rfl, hi5⟩; refine hK.out _ _ (But.of_below hb5) ?_; clear hK K
  try simp only [zq]
  refine zd HOP fun K hK => ?_
  go_simp; refine (rItem_c p.rpN p.rpS hp.rn hp.rs HE.out.2.2 _).mono ?_; rintro en w6 ⟨hb6, r6, rfl, hi6⟩; refine hK.out _ _ (But.of_below hb6) ?_; clear hK K
  try simp only [zq]
  refine zd HOP fun K hK => ?_
  go_simp; refine (rUint_c p.time _).mono ?_; rintro en w7 ⟨rfl, hb7⟩; refine hK.out _ _ (But.of_below hb7) ?_; clear hK K
  try simp only [zq]
  refine zd HOP fun K hK => ?_
  go_simp; refine (rUint_c p.seq _).mono ?_; rintro en w8 ⟨rfl, hb8⟩; refine hK.out _ _ (But.of_below hb8) ?_; clear hK K
  try simp only [zq]
  refine pt_c ?_; refine pt_buildSlice (by rw [← HOP.out]; simp only [zs]; rfl) (by rw [← HOP.out]; kernel_rfl) 59 62 2 #[(0, .tmp 23), (1, .tmp 27)] rfl ([rU p.time, rU p.seq].flatMap rwC).toArray iI _ Tryz.underlying59 hiI hzI (by rw [hsI]; decide) (by rw [hsI]; decide) [(0, rwV (rU p.time)), (1, rwV (rU p.seq))] rfl (by rw [hsI]; exact filled2 _ _) ?_
  try simp only [zq]
  have I9 := RowAt.new w8 ([rU p.time, rU p.seq].flatMap rwC).toArray 62; have hb9 := below_alloc w8 (.cells ([rU p.time, rU p.seq].flatMap rwC).toArray 62); obtain ⟨w9, hw9⟩ : ∃ x, w8.alloc (.cells ([rU p.time, rU p.seq].flatMap rwC).toArray 62) = x := ⟨_, rfl⟩; rw [hw9] at I9 hb9 ⊢
  refine zd HOP fun K hK => ?_
  go_simp; refine (rList_c _ _ _ _).mono ?_; rintro en w10 ⟨rfl, hb10⟩; refine hK.out _ _ (But.of_below hb10) ?_; clear hK K
  try simp only [zq]
  refine zd HOP fun K hK => ?_
  go_simp; refine (rUint_c p.life _).mono ?_; rintro en w11 ⟨rfl, hb11⟩; refine hK.out _ _ (But.of_below hb11) ?_; clear hK K
  try simp only [zq]
  refine pt_c ?_; refine pt_buildSlice (by rw [← HOP.out]; simp only [zs]; rfl) (by rw [← HOP.out]; kernel_rfl) 59 62 8 #[(0, .tmp 3), (1, .tmp 7), (2, .tmp 11), (3, .tmp 14), (4, .tmp 17), (5, .tmp 20), (6, .tmp 29), (7, .tmp 32)] rfl ([rU 7, rU p.flags, rU k, r4, r5, r6, rL (.slice (some ⟨w8.heap.size, 0, none⟩) 2 2), rU p.life].flatMap rwC).toArray iI _ Tryz.underlying59 hiI hzI (by rw [hsI]; decide) (by rw [hsI]; decide) [(0, rwV (rU 7)), (1, rwV (rU p.flags)), (2, rwV (rU k)), (3, rwV r4), (4, rwV r5), (5, rwV r6), (6, rwV (rL (.slice (some ⟨w8.heap.size, 0, none⟩) 2 2))), (7, rwV (rU p.life))] rfl (by rw [hsI]; exact filled8 _ _ _ _ _ _ _ _) ?_
  try simp only [zq]
  refine zo HOP ?_; refine pt_done ?_; have hb12 := below_alloc w11 (.cells ([rU 7, rU p.flags, rU k, r4, r5, r6, rL (.slice (some ⟨w8.heap.size, 0, none⟩) 2 2), rU p.life].flatMap rwC).toArray 62); have own12 := World.ownsRow_lit w11 ([rU 7, rU p.flags, rU k, r4, r5, r6, rL (.slice (some ⟨w8.heap.size, 0, none⟩) 2 2), rU p.life].flatMap rwC).toArray 8 (size := 5) (e := 62) (Nat.le_refl _) (by decide) rfl; obtain ⟨w12, hw12⟩ : ∃ x, w11.alloc (.cells ([rU 7, rU p.flags, rU k, r4, r5, r6, rL (.slice (some ⟨w8.heap.size, 0, none⟩) 2 2), rU p.life].flatMap rwC).toArray 62) = x := ⟨_, rfl⟩; rw [hw12] at hb12 own12 ⊢; clear hw12; have I12 := (I9.below (below_up hb10 hb11)).below hb12; have e11 := below_up hb11 hb12; have e10 := below_up hb10 e11; have e9 := below_up hb9 e10; have e8 := below_up hb8 e9; have e7 := below_up hb7 e8
  have e6 := below_up hb6 e7; have e5 := below_up hb5 e6; have e4 := below_up hb4 e5; have e3 := below_up hb3 e4; have e2 := below_up hb2 e3; have e1 := below_up hb1 e2; have D := below_up HD0.out (below_up hBd e1); have HW := Lib.hid (And.intro I12 (And.intro own12 (And.intro D (And.intro e7 (And.intro e6 e5)))))
  have HSZ := Lib.hid (show w.heap.size ≤ w3.heap.size ∧ w3.heap.size ≤ w4.heap.size ∧ w4.heap.size ≤ w5.heap.size ∧ w5.heap.size ≤ w6.heap.size ∧ w6.heap.size ≤ w8.heap.size ∧ w8.heap.size < w12.heap.size ∧ w6.heap.size ≤ w11.heap.size from by
    have h0 := HD0.out.size; have h1 := hBd.size; have h2 := hb1.size; have h3 := hb2.size; have h4 := hb3.size; have h5 := hb4.size; have h6 := hb5.size; have h7 := hb6.size; have h8 := hb7.size; have h9 := hb8.size; have h10 := I12.lt; have h11 := hb9.size; have h12 := hb10.size; have h13 := hb11.size
    omega)
  have HI := Lib.hid (And.intro hi4 (And.intro hi5 hi6)); clear hi4 hi5 hi6 I12 own12 D e11 e10 e9 e8 e7 e6 e5 e4 e3 e2 e1 hb12 hb11 hb10 hb9 hb8 hb7 hb6 hb5 hb4 hb3 hb2 hb1 hBd I9 hw9; go_wp2; go_ret; obtain ⟨I12, own12, D, e7, e6, e5⟩ := HW.out; obtain ⟨s1, s2, s3, s4, s5, s6, s7⟩ := HSZ.out; obtain ⟨hi4, hi5, hi6⟩ := HI.out; refine ⟨_, [rU 7, rU p.flags, rU k, r4, r5, r6, rL (.slice (some ⟨w8.heap.size, 0, none⟩) 2 2), rU p.life], rfl, own_down own12 (by omega), ?_, D⟩; unfold Prm.prL; rw [HKS.out]; have j4 := (hi4.up e5).mono (S' := fun q => w.heap.size ≤ q ∧ q < w12.heap.size) (fun q e => ⟨by omega, by omega⟩); have j5 := (hi5.up e6).mono (S' := fun q => w.heap.size ≤ q ∧ q < w12.heap.size) (fun q e => ⟨by omega, by omega⟩); have j6 := (hi6.up e7).mono (S' := fun q => w.heap.size ≤ q ∧ q < w12.heap.size) (fun q e => ⟨by omega, by omega⟩); have jL := itL (its2 (itU (fun q => w.heap.size ≤ q ∧ q < w12.heap.size) w12 p.time hp.t) (itU _ _ p.seq (by have := hp.q; omega))) I12 ⟨by omega, by omega⟩ (by simp)
  simp only [ItsR]; exact ⟨_, _, rfl, itU _ _ 7 (by decide), _, _, rfl, itU _ _ p.flags (by have := hp.f; omega), _, _, rfl, itU _ _ k HKB.out, _, _, rfl, j4, _, _, rfl, j5, _, _, rfl, j6, _, _, rfl, jL, _, _, rfl, itU _ _ p.life hp.l, rfl⟩
end Go.Proofs.YtpkonagjnfphkaaGreatDoor
