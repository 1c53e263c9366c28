/-
  Contracts of the reference's sums.
-/
import Derived.Test.YtinohligpncpiaaSumE
namespace Go.Proofs.Ytinohligpncpiaa
open Go.RowKit
set_option linter.unusedSimpArgs false
set_option linter.unusedVariables false

theorem refKind_c (k : Int) (w : World) : Calls Try.prog 9 #[.int .i64 k] w fun e w' => e = .returned (.bool (decide (0 ≤ k) && decide (k ≤ 2))) ∧ w = w' := by
  by_cases h : 0 ≤ k
  · go_enter Try.func9, Try.ntmps9
    go_wp2
    go_ret
    exact ⟨retB (by simp [h]), rfl⟩
  · have h' : k < 0 := by omega
    go_enter Try.func9, Try.ntmps9
    go_wp2
    go_ret
    exact ⟨retB (by simp; omega), rfl⟩
theorem refWidth_c (k : Nat) (hk : k ≤ 2) (w : World) : Calls Try.prog 12 #[.int .i64 k] w fun e w' => e = .returned (.int .i64 (Sum.wd k)) ∧ w = w' := by
  have hw := Sum.wd_eq hk
  go_enter Try.func12, Try.ntmps12
  go_wp2
  go_ret
  exact ⟨retI (by rw [hw]; push_cast; omega), rfl⟩

namespace Sum
theorem ones_xor (m x : Nat) (h : x < 2 ^ m) : 2 ^ m - 1 - x = (2 ^ m - 1) ^^^ x := by
  have h1 := BitVec.toNat_not (x := BitVec.ofNat m x)
  have h2 : (BitVec.allOnes m ^^^ BitVec.ofNat m x) = ~~~ (BitVec.ofNat m x) := BitVec.allOnes_xor
  rw [← h2, BitVec.toNat_xor, BitVec.toNat_allOnes, BitVec.toNat_ofNat, Nat.mod_eq_of_lt h] at h1
  exact h1.symm
theorem stepN_le {k n b : Nat} (hn : n ≤ all k) : stepN (upon k) n b ≤ all k := by
  unfold stepN
  split
  · omega
  · match k with
    | 0 => simp only [all, upon] at *; have : n = 0 := by omega
           subst this; decide
    | 1 => simp only [all, upon] at *; have := Nat.xor_lt_two_pow (x := n / 2) (y := 33800) (n := 16) (by omega) (by omega); omega
    | k + 2 => simp only [all, upon] at *; have := Nat.xor_lt_two_pow (x := n / 2) (y := 2197175160) (n := 32) (by omega) (by omega); omega
theorem bitsTo_le {k n c : Nat} (hn : n ≤ all k) : ∀ i, bitsTo (upon k) n c i ≤ all k
  | 0 => hn
  | i + 1 => stepN_le (bitsTo_le hn i)
theorem crcN_le {k n : Nat} (hn : n ≤ all k) (l : List UInt8) : crcN (upon k) n l ≤ all k := by
  induction l generalizing n with
  | nil => exact hn
  | cons c l ih => exact ih (bitsTo_le hn 8)
theorem all_sub (k x : Nat) (h : x ≤ all k) : all k - x = all k ^^^ x := by
  match k with
  | 0 => simp only [all] at *; have : x = 0 := by omega
         subst this; rfl
  | 1 => exact ones_xor 16 x (by simp only [all] at h; omega)
  | k + 2 => exact ones_xor 32 x (by simp only [all] at h; omega)
end Sum

set_option maxHeartbeats 1000000 in
theorem refOf_c (k : Nat) (hk : k ≤ 2) (l : List UInt8) (v : Value) (n : Nat) (w : World) (hv : Sl w 1 v n (by8 l)) (hn : n ≤ 140737488355328) :
    Calls Try.prog 11 #[.int .i64 k, v] w (Ret (.int .u32 (Sum.sumN k l)) w) := by
  have hln := hv.n_len
  obtain ⟨a, c, rfl⟩ := hv.len
  have Hln := Lib.hid hln
  clear hln
  have hA : ∀ (w : World), (w.alloc (.cells #[.int .u32 0, .int .u32 65535, .int .u32 4294967295] 25)).cell? ⟨w.heap.size, k, none⟩ = some (.int .u32 (Sum.all k)) := by
    intro w
    rw [World.cell?_alloc_at _ _ _ _ rfl]
    have : k = 0 ∨ k = 1 ∨ k = 2 := by omega
    rcases this with rfl | rfl | rfl <;> rfl
  have hU : ∀ (w : World), (w.alloc (.cells #[.int .u32 0, .int .u32 33800, .int .u32 2197175160] 25)).cell? ⟨w.heap.size, k, none⟩ = some (.int .u32 (Sum.upon k)) := by
    intro w
    rw [World.cell?_alloc_at _ _ _ _ rfl]
    have : k = 0 ∨ k = 1 ∨ k = 2 := by omega
    rcases this with rfl | rfl | rfl <;> rfl
  have hA1 := hA w
  have hU1 := hU (w.alloc (.cells #[.int .u32 0, .int .u32 65535, .int .u32 4294967295] 25))
  rw [World.size_alloc] at hU1
  clear hA hU
  have hk2 : (k : Int) < 3 := by omega
  go_enter Try.func11, Try.ntmps11
  go_wp2
  have hB0 : Below w.heap.size w ((w.alloc (.cells #[.int .u32 0, .int .u32 65535, .int .u32 4294967295] 25)).alloc (.cells #[.int .u32 0, .int .u32 33800, .int .u32 2197175160] 25)) := (below_alloc w _).alloc (by simp) _
  have hu := Sum.upon_lt k
  have ha := Sum.all_lt k
  clear hA1 hU1
  go_loopg [7, 8] n (fun gh t7 t8 wr => ∃ (i : Nat), i ≤ n ∧ gh = n - i ∧ t7 = .int .u32 (Sum.crcN (Sum.upon k) (Sum.all k) (l.take i) : Nat) ∧ t8 = .int .i64 i ∧ Below w.heap.size w wr)
  case atStart => exact ⟨0, Nat.zero_le _, rfl, rfl, rfl, hB0⟩
  case round =>
    obtain ⟨i, hi, rfl, rfl, rfl, hB⟩ := hrel
    by_cases hlt : i < n
    · have hil : i < l.length := by rw [Hln.out]; exact hlt
      obtain ⟨b, off, rfl, hc⟩ := (hv.up hB).cellAt (k := i) (by omega) (by omega)
      rw [by8_get l i hil] at hc
      have hc256 : (l[i]).toNat < 256 := UInt8.toNat_lt _
      have hsn : Sum.crcN (Sum.upon k) (Sum.all k) (l.take (i + 1)) = Sum.byteN (Sum.upon k) (Sum.crcN (Sum.upon k) (Sum.all k) (l.take i)) l[i].toNat := by rw [Oct.take_snoc l i hil, Sum.crcN_snoc]
      have Hsn := Lib.hid hsn
      have hlt2 := Sum.crcN_lt hu ha (l.take i)
      clear hsn
      generalize (l[i]).toNat = cb at *
      generalize Sum.crcN (Sum.upon k) (Sum.all k) (l.take i) = cr at *
      generalize Sum.upon k = uu at *
      go_wp2
      go_loopg [7, 9, 10] 8 (fun gh t7 t9 t10 wr => ∃ (j : Nat), j ≤ 8 ∧ gh = 8 - j ∧ t7 = .int .u32 (Sum.bitsTo uu cr cb j : Nat) ∧ t9 = .int .u32 (cb / 2 ^ j : Nat) ∧ t10 = .int .i64 j ∧ Below w.heap.size w wr)
      case atStart => exact ⟨0, by decide, rfl, rfl, by simp, rfl, hB⟩
      case round =>
        obtain ⟨j, hj, rfl, rfl, rfl, rfl, hB1⟩ := hrel
        by_cases hj8 : j < 8
        · have hst : Sum.bitsTo uu cr cb (j + 1) = Sum.stepN uu (Sum.bitsTo uu cr cb j) (cb / 2 ^ j) := rfl
          have hdiv : cb / 2 ^ (j + 1) = cb / 2 ^ j / 2 := by rw [Nat.pow_succ, Nat.div_div_eq_div_mul]
          have hb1 := Sum.bitsTo_lt (c := cb) hu hlt2 j
          have hq : cb / 2 ^ j < 256 := Nat.lt_of_le_of_lt (Nat.div_le_self _ _) hc256
          have Hst := Lib.hid hst
          have Hdiv := Lib.hid hdiv
          clear hst hdiv
          generalize Sum.bitsTo uu cr cb j = nn at *
          generalize cb / 2 ^ j = qq at *
          by_cases hx : nn % 2 = qq % 2
          · have ht : ((nn : Int) % 2 != (qq : Int) % 2) = false := by simp; omega
            have hs : Sum.stepN uu nn qq = nn / 2 := by unfold Sum.stepN; rw [if_pos hx]
            have Hs := Lib.hid hs
            clear hs hx
            go_wp2
            go_roundg (8 - (j + 1))
            case rel => exact ⟨j + 1, by omega, rfl, by rw [Hst.out, Hs.out]; rfl, by rw [Hdiv.out]; rfl, by go_num, hB1⟩
            case measure => omega
          · have ht : ((nn : Int) % 2 != (qq : Int) % 2) = true := by simp; omega
            have hs : Sum.stepN uu nn qq = nn / 2 ^^^ uu := by unfold Sum.stepN; rw [if_neg hx]
            have Hs := Lib.hid hs
            have HX := Lib.hid (bits_xor_u32 (nn / 2) uu (by omega) hu)
            clear hs hx
            go_wp2
            go_roundg (8 - (j + 1))
            case rel => exact ⟨j + 1, by omega, rfl, by rw [Hst.out, Hs.out, ← HX.out]; rfl, by rw [Hdiv.out]; rfl, by go_num, hB1⟩
            case measure => omega
        · obtain rfl : j = 8 := by omega
          go_wp2
          go_roundg (n - (i + 1))
          case rel => exact ⟨i + 1, by omega, rfl, by rw [Hsn.out]; rfl, by go_num, hB1⟩
          case measure => omega
    · obtain rfl : i = n := by omega
      have hle := Sum.crcN_le (Nat.le_refl (Sum.all k)) l
      have hsub : (Sum.sumN k l : Int) = (Sum.all k : Int) - (Sum.crcN (Sum.upon k) (Sum.all k) l : Int) := by
        unfold Sum.sumN
        rw [← Sum.all_sub k _ hle]
        omega
      have hall : l.take i = l := by rw [List.take_of_length_le (by rw [Hln.out]; exact Nat.le_refl _)]
      rw [hall]
      have Hsub := Lib.hid hsub
      clear hsub hall
      generalize Sum.crcN (Sum.upon k) (Sum.all k) l = cr at *
      go_wp2
      go_ret
      exact ⟨retI Hsub.out.symm, hB⟩
end Go.Proofs.Ytinohligpncpiaa
