/-
  OctetC, OctetD: several texts in one (bundle.py).
-/
import Derived.Test.YtpkonagjnfphkaaGreatDoorPmB02
namespace Go.Proofs.YtpkonagjnfphkaaGreatDoor
open Go.RowKit
set_option linter.unusedSimpArgs false
set_option linter.unusedVariables false

theorem putR_bad_c (n wd : Int) (w : World) (hw : Oct.okW wd = false) :
    Calls Tryz.prog 104 #[.int .u64 n, .int .i64 wd] w (RetBy w.heap.size [] 2 w) := by
  have Hw := Lib.hid hw; clear hw
  go_enter Tryz.func104, Tryz.ntmps104
  go_wp2_with (go_at_call 128; refine (widthR_c _ _).mono ?_; rw [Hw.out]; rintro e w1 ⟨rfl, rfl⟩)
  go_ret2
  exact ⟨_, rfl, World.ownsRow_nil _ _ _ _, Below.refl _ _⟩

/-! ### The plain law: a row of bytes filled from behind -/
namespace Oct
/-- After j rounds: wd - j noughts, and the last j bytes. -/
def back (wd j : Nat) (n : Int) : List UInt8 := List.replicate (wd - j) 0 ++ beB j n
theorem beB_cons (k : Nat) (n : Int) : beB (k + 1) n = UInt8.ofNat (n / 256 ^ k % 256).toNat :: beB k n := by
  induction k generalizing n with
  | zero => simp [beB]
  | succ k ih =>
    rw [beB, ih (n / 256)]
    conv => rhs; rw [beB]
    rw [List.cons_append]
    congr 3
    rw [Int.ediv_ediv_of_nonneg (by decide), Int.mul_comm, ← Int.pow_succ]
theorem back_zero (wd : Nat) (n : Int) : back wd 0 n = List.replicate wd 0 := by simp [back, beB]
theorem back_all (wd : Nat) (n : Int) : back wd wd n = beB wd n := by simp [back]
theorem back_set (wd j : Nat) (n m : Int) (h : j < wd) (hm : n / 256 ^ j % 256 = m) : (by8 (back wd j n)).set (wd - 1 - j) (.int .u8 m) = by8 (back wd (j + 1) n) := by
  have e : wd - j = (wd - 1 - j) + 1 := by omega
  have e2 : wd - (j + 1) = wd - 1 - j := by omega
  unfold back
  rw [e, e2, beB_cons]
  generalize hk : wd - 1 - j = k
  have hb : by8 (List.replicate (k + 1) 0 ++ beB j n) = by8 (List.replicate k 0) ++ (.int .u8 0 :: by8 (beB j n)) := by
    rw [List.replicate_succ', List.append_assoc, by8_app]
    rfl
  rw [hb, List.set_append_right _ _ (by simp [by8_len]), by8_app]
  congr 1
  simp only [by8_len, List.length_replicate, Nat.sub_self, List.set_cons_zero]
  show _ :: by8 (beB j n) = Value.int .u8 (((UInt8.ofNat (n / 256 ^ j % 256).toNat).toNat : Nat) : Int) :: by8 (beB j n)
  rw [byte_mod, hm]
end Oct

set_option maxHeartbeats 1000000 in
theorem putR_ok_c (n wd : Int) (w : World) (h0 : 0 ≤ n) (h1 : n ≤ 18446744073709551615) (hw : Oct.okW wd = true) :
    Calls Tryz.prog 104 #[.int .u64 n, .int .i64 wd] w (RetBy w.heap.size (Oct.putB n wd) (Oct.putE n wd) w) := by
  have Hw := Lib.hid hw
  rcases Oct.okW_cases hw with rfl | rfl | rfl | rfl
  · clear hw
    have hmk : ∀ w : World, (Instr.makeSlice 48 (.int .i64 1) (.int .i64 1)).run Tryz.prog w = .ok (.slice (some ⟨w.heap.size, 0, none⟩) 1 1) (w.alloc (.cells #[.int .u8 0] 5)) := fun _ => by kernel_rfl
    have hown : (w.alloc (.cells #[.int .u8 0] 5)).ownsRow w.heap.size 5 1 (.slice (some ⟨w.heap.size, 0, none⟩) 1 1) 1 (by8 (Oct.back 1 0 n)) := World.ownsRow_lit w #[.int .u8 0] 1 (size := 1) (e := 5) (Nat.le_refl _) (by decide) rfl
    go_enter Tryz.func104, Tryz.ntmps104
    go_wp2_with (go_at_call 128; refine (widthR_c _ _).mono ?_; rw [Hw.out]; rintro e w1 ⟨rfl, rfl⟩)
    have hB := below_alloc w (.cells #[.int .u8 0] 5)
    go_loopw [0, 7] (fun m i wr => ∃ j : Nat, j ≤ 1 ∧ i = .int .i64 (1 - 1 - (j : Int)) ∧ m = .int .u64 (n / 256 ^ j) ∧ wr.ownsRow w.heap.size 5 1 (.slice (some ⟨w.heap.size, 0, none⟩) 1 1) 1 (by8 (Oct.back 1 j n)) ∧ Below w.heap.size w wr) (fun _ i _ => (intOf i + 1).toNat)
    case atStart => exact ⟨0, by decide, rfl, by simp, hown, hB⟩
    case round =>
      obtain ⟨j, hj, rfl, rfl, ho, hB⟩ := hrel
      clear hmk hown
      have hjs : j = 0 ∨ j = 1 := by omega
      rcases hjs with rfl | rfl
      · have hf := ho.frozenAt 0
        have hc := ho.cellAt 0 (by decide)
        simp only [Oct.back, by8, List.replicate, List.map_cons, List.map_append, List.cons_append, List.getElem?_cons_zero, List.getElem?_cons_succ, Nat.reduceSub] at hc
        have hst := (ho.stored 0 (.int .u8 (n / 256 ^ 0 % 256))).1
        rw [show (0 : Nat) = 1 - 1 - 0 from rfl, Oct.back_set 1 0 n _ (by decide) rfl] at hst
        have Hst := Lib.hid hst
        clear hst
        go_wp2
        go_roundw
        case rel => exact ⟨1, by decide, by rfl, by first | (simp; done) | (simp; omega), by simpa using Hst.out, hB.setCell (Nat.le_refl _) _⟩
        case measure => simp [intOf]
      · cases hfit : Oct.fitsB 1 n with
        | true =>
          have hz := Oct.fitsB_lt hfit
          simp at hz
          have hz2 : n / 256 ^ 1 = 0 := by simp; omega
          have Hz2 := Lib.hid hz2
          have hv : Oct.putB n 1 = Oct.beB 1 n := by unfold Oct.putB; rw [Hw.out, hfit]; rfl
          have he : Oct.putE n 1 = 0 := by unfold Oct.putE; rw [Hw.out, hfit]; rfl
          have Hv := Lib.hid hv
          have He := Lib.hid he
          clear hv he hfit hz
          go_wp2
          go_ret2
          exact RetBy.of Hv.out He.out (by rw [Oct.beB_len]; rw [Oct.back_all] at ho; exact ho) hB
        | false =>
          have hz : ¬ n < 256 ^ (1 : Int).toNat := by simpa [Oct.fitsB] using hfit
          simp at hz
          have hz2 : 0 < n / 256 ^ 1 := by simp; omega
          have hv : Oct.putB n 1 = [] := by unfold Oct.putB; rw [Hw.out, hfit]; rfl
          have he : Oct.putE n 1 = 4 := by unfold Oct.putE; rw [Hw.out, hfit]; rfl
          have Hv := Lib.hid hv
          have He := Lib.hid he
          clear hv he hfit hz
          go_wp2
          go_ret2
          exact RetBy.of Hv.out He.out (World.ownsRow_nil _ _ _ _) hB
  · clear hw
    have hmk : ∀ w : World, (Instr.makeSlice 48 (.int .i64 2) (.int .i64 2)).run Tryz.prog w = .ok (.slice (some ⟨w.heap.size, 0, none⟩) 2 2) (w.alloc (.cells #[.int .u8 0, .int .u8 0] 5)) := fun _ => by kernel_rfl
    have hown : (w.alloc (.cells #[.int .u8 0, .int .u8 0] 5)).ownsRow w.heap.size 5 1 (.slice (some ⟨w.heap.size, 0, none⟩) 2 2) 2 (by8 (Oct.back 2 0 n)) := World.ownsRow_lit w #[.int .u8 0, .int .u8 0] 2 (size := 1) (e := 5) (Nat.le_refl _) (by decide) rfl
    go_enter Tryz.func104, Tryz.ntmps104
    go_wp2_with (go_at_call 128; refine (widthR_c _ _).mono ?_; rw [Hw.out]; rintro e w1 ⟨rfl, rfl⟩)
    have hB := below_alloc w (.cells #[.int .u8 0, .int .u8 0] 5)
    go_loopw [0, 7] (fun m i wr => ∃ j : Nat, j ≤ 2 ∧ i = .int .i64 (2 - 1 - (j : Int)) ∧ m = .int .u64 (n / 256 ^ j) ∧ wr.ownsRow w.heap.size 5 1 (.slice (some ⟨w.heap.size, 0, none⟩) 2 2) 2 (by8 (Oct.back 2 j n)) ∧ Below w.heap.size w wr) (fun _ i _ => (intOf i + 1).toNat)
    case atStart => exact ⟨0, by decide, rfl, by simp, hown, hB⟩
    case round =>
      obtain ⟨j, hj, rfl, rfl, ho, hB⟩ := hrel
      clear hmk hown
      have hjs : j = 0 ∨ j = 1 ∨ j = 2 := by omega
      rcases hjs with rfl | rfl | rfl
      · have hf := ho.frozenAt 1
        have hc := ho.cellAt 1 (by decide)
        simp only [Oct.back, by8, List.replicate, List.map_cons, List.map_append, List.cons_append, List.getElem?_cons_zero, List.getElem?_cons_succ, Nat.reduceSub] at hc
        have hst := (ho.stored 1 (.int .u8 (n / 256 ^ 0 % 256))).1
        rw [show (1 : Nat) = 2 - 1 - 0 from rfl, Oct.back_set 2 0 n _ (by decide) rfl] at hst
        have Hst := Lib.hid hst
        clear hst
        go_wp2
        go_roundw
        case rel => exact ⟨1, by decide, by rfl, by first | (simp; done) | (simp; omega), by simpa using Hst.out, hB.setCell (Nat.le_refl _) _⟩
        case measure => simp [intOf]
      · have hf := ho.frozenAt 0
        have hc := ho.cellAt 0 (by decide)
        simp only [Oct.back, by8, List.replicate, List.map_cons, List.map_append, List.cons_append, List.getElem?_cons_zero, List.getElem?_cons_succ, Nat.reduceSub] at hc
        have hst := (ho.stored 0 (.int .u8 (n / 256 ^ 1 % 256))).1
        rw [show (0 : Nat) = 2 - 1 - 1 from rfl, Oct.back_set 2 1 n _ (by decide) rfl] at hst
        have Hst := Lib.hid hst
        clear hst
        go_wp2
        go_roundw
        case rel => exact ⟨2, by decide, by rfl, by first | (simp; done) | (simp; omega), by simpa using Hst.out, hB.setCell (Nat.le_refl _) _⟩
        case measure => simp [intOf]
      · cases hfit : Oct.fitsB 2 n with
        | true =>
          have hz := Oct.fitsB_lt hfit
          simp at hz
          have hz2 : n / 256 ^ 2 = 0 := by simp; omega
          have Hz2 := Lib.hid hz2
          have hv : Oct.putB n 2 = Oct.beB 2 n := by unfold Oct.putB; rw [Hw.out, hfit]; rfl
          have he : Oct.putE n 2 = 0 := by unfold Oct.putE; rw [Hw.out, hfit]; rfl
          have Hv := Lib.hid hv
          have He := Lib.hid he
          clear hv he hfit hz
          go_wp2
          go_ret2
          exact RetBy.of Hv.out He.out (by rw [Oct.beB_len]; rw [Oct.back_all] at ho; exact ho) hB
        | false =>
          have hz : ¬ n < 256 ^ (2 : Int).toNat := by simpa [Oct.fitsB] using hfit
          simp at hz
          have hz2 : 0 < n / 256 ^ 2 := by simp; omega
          have hv : Oct.putB n 2 = [] := by unfold Oct.putB; rw [Hw.out, hfit]; rfl
          have he : Oct.putE n 2 = 4 := by unfold Oct.putE; rw [Hw.out, hfit]; rfl
          have Hv := Lib.hid hv
          have He := Lib.hid he
          clear hv he hfit hz
          go_wp2
          go_ret2
          exact RetBy.of Hv.out He.out (World.ownsRow_nil _ _ _ _) hB
  · clear hw
    have hmk : ∀ w : World, (Instr.makeSlice 48 (.int .i64 4) (.int .i64 4)).run Tryz.prog w = .ok (.slice (some ⟨w.heap.size, 0, none⟩) 4 4) (w.alloc (.cells #[.int .u8 0, .int .u8 0, .int .u8 0, .int .u8 0] 5)) := fun _ => by kernel_rfl
    have hown : (w.alloc (.cells #[.int .u8 0, .int .u8 0, .int .u8 0, .int .u8 0] 5)).ownsRow w.heap.size 5 1 (.slice (some ⟨w.heap.size, 0, none⟩) 4 4) 4 (by8 (Oct.back 4 0 n)) := World.ownsRow_lit w #[.int .u8 0, .int .u8 0, .int .u8 0, .int .u8 0] 4 (size := 1) (e := 5) (Nat.le_refl _) (by decide) rfl
    go_enter Tryz.func104, Tryz.ntmps104
    go_wp2_with (go_at_call 128; refine (widthR_c _ _).mono ?_; rw [Hw.out]; rintro e w1 ⟨rfl, rfl⟩)
    have hB := below_alloc w (.cells #[.int .u8 0, .int .u8 0, .int .u8 0, .int .u8 0] 5)
    go_loopw [0, 7] (fun m i wr => ∃ j : Nat, j ≤ 4 ∧ i = .int .i64 (4 - 1 - (j : Int)) ∧ m = .int .u64 (n / 256 ^ j) ∧ wr.ownsRow w.heap.size 5 1 (.slice (some ⟨w.heap.size, 0, none⟩) 4 4) 4 (by8 (Oct.back 4 j n)) ∧ Below w.heap.size w wr) (fun _ i _ => (intOf i + 1).toNat)
    case atStart => exact ⟨0, by decide, rfl, by simp, hown, hB⟩
    case round =>
      obtain ⟨j, hj, rfl, rfl, ho, hB⟩ := hrel
      clear hmk hown
      have hjs : j = 0 ∨ j = 1 ∨ j = 2 ∨ j = 3 ∨ j = 4 := by omega
      rcases hjs with rfl | rfl | rfl | rfl | rfl
      · have hf := ho.frozenAt 3
        have hc := ho.cellAt 3 (by decide)
        simp only [Oct.back, by8, List.replicate, List.map_cons, List.map_append, List.cons_append, List.getElem?_cons_zero, List.getElem?_cons_succ, Nat.reduceSub] at hc
        have hst := (ho.stored 3 (.int .u8 (n / 256 ^ 0 % 256))).1
        rw [show (3 : Nat) = 4 - 1 - 0 from rfl, Oct.back_set 4 0 n _ (by decide) rfl] at hst
        have Hst := Lib.hid hst
        clear hst
        go_wp2
        go_roundw
        case rel => exact ⟨1, by decide, by rfl, by first | (simp; done) | (simp; omega), by simpa using Hst.out, hB.setCell (Nat.le_refl _) _⟩
        case measure => simp [intOf]
      · have hf := ho.frozenAt 2
        have hc := ho.cellAt 2 (by decide)
        simp only [Oct.back, by8, List.replicate, List.map_cons, List.map_append, List.cons_append, List.getElem?_cons_zero, List.getElem?_cons_succ, Nat.reduceSub] at hc
        have hst := (ho.stored 2 (.int .u8 (n / 256 ^ 1 % 256))).1
        rw [show (2 : Nat) = 4 - 1 - 1 from rfl, Oct.back_set 4 1 n _ (by decide) rfl] at hst
        have Hst := Lib.hid hst
        clear hst
        go_wp2
        go_roundw
        case rel => exact ⟨2, by decide, by rfl, by first | (simp; done) | (simp; omega), by simpa using Hst.out, hB.setCell (Nat.le_refl _) _⟩
        case measure => simp [intOf]
      · have hf := ho.frozenAt 1
        have hc := ho.cellAt 1 (by decide)
        simp only [Oct.back, by8, List.replicate, List.map_cons, List.map_append, List.cons_append, List.getElem?_cons_zero, List.getElem?_cons_succ, Nat.reduceSub] at hc
        have hst := (ho.stored 1 (.int .u8 (n / 256 ^ 2 % 256))).1
        rw [show (1 : Nat) = 4 - 1 - 2 from rfl, Oct.back_set 4 2 n _ (by decide) rfl] at hst
        have Hst := Lib.hid hst
        clear hst
        go_wp2
        go_roundw
        case rel => exact ⟨3, by decide, by rfl, by first | (simp; done) | (simp; omega), by simpa using Hst.out, hB.setCell (Nat.le_refl _) _⟩
        case measure => simp [intOf]
      · have hf := ho.frozenAt 0
        have hc := ho.cellAt 0 (by decide)
        simp only [Oct.back, by8, List.replicate, List.map_cons, List.map_append, List.cons_append, List.getElem?_cons_zero, List.getElem?_cons_succ, Nat.reduceSub] at hc
        have hst := (ho.stored 0 (.int .u8 (n / 256 ^ 3 % 256))).1
        rw [show (0 : Nat) = 4 - 1 - 3 from rfl, Oct.back_set 4 3 n _ (by decide) rfl] at hst
        have Hst := Lib.hid hst
        clear hst
        go_wp2
        go_roundw
        case rel => exact ⟨4, by decide, by rfl, by first | (simp; done) | (simp; omega), by simpa using Hst.out, hB.setCell (Nat.le_refl _) _⟩
        case measure => simp [intOf]
      · cases hfit : Oct.fitsB 4 n with
        | true =>
          have hz := Oct.fitsB_lt hfit
          simp at hz
          have hz2 : n / 256 ^ 4 = 0 := by simp; omega
          have Hz2 := Lib.hid hz2
          have hv : Oct.putB n 4 = Oct.beB 4 n := by unfold Oct.putB; rw [Hw.out, hfit]; rfl
          have he : Oct.putE n 4 = 0 := by unfold Oct.putE; rw [Hw.out, hfit]; rfl
          have Hv := Lib.hid hv
          have He := Lib.hid he
          clear hv he hfit hz
          go_wp2
          go_ret2
          exact RetBy.of Hv.out He.out (by rw [Oct.beB_len]; rw [Oct.back_all] at ho; exact ho) hB
        | false =>
          have hz : ¬ n < 256 ^ (4 : Int).toNat := by simpa [Oct.fitsB] using hfit
          simp at hz
          have hz2 : 0 < n / 256 ^ 4 := by simp; omega
          have hv : Oct.putB n 4 = [] := by unfold Oct.putB; rw [Hw.out, hfit]; rfl
          have he : Oct.putE n 4 = 4 := by unfold Oct.putE; rw [Hw.out, hfit]; rfl
          have Hv := Lib.hid hv
          have He := Lib.hid he
          clear hv he hfit hz
          go_wp2
          go_ret2
          exact RetBy.of Hv.out He.out (World.ownsRow_nil _ _ _ _) hB
  · clear hw
    have hmk : ∀ w : World, (Instr.makeSlice 48 (.int .i64 8) (.int .i64 8)).run Tryz.prog w = .ok (.slice (some ⟨w.heap.size, 0, none⟩) 8 8) (w.alloc (.cells #[.int .u8 0, .int .u8 0, .int .u8 0, .int .u8 0, .int .u8 0, .int .u8 0, .int .u8 0, .int .u8 0] 5)) := fun _ => by kernel_rfl
    have hown : (w.alloc (.cells #[.int .u8 0, .int .u8 0, .int .u8 0, .int .u8 0, .int .u8 0, .int .u8 0, .int .u8 0, .int .u8 0] 5)).ownsRow w.heap.size 5 1 (.slice (some ⟨w.heap.size, 0, none⟩) 8 8) 8 (by8 (Oct.back 8 0 n)) := World.ownsRow_lit w #[.int .u8 0, .int .u8 0, .int .u8 0, .int .u8 0, .int .u8 0, .int .u8 0, .int .u8 0, .int .u8 0] 8 (size := 1) (e := 5) (Nat.le_refl _) (by decide) rfl
    go_enter Tryz.func104, Tryz.ntmps104
    go_wp2_with (go_at_call 128; refine (widthR_c _ _).mono ?_; rw [Hw.out]; rintro e w1 ⟨rfl, rfl⟩)
    have hB := below_alloc w (.cells #[.int .u8 0, .int .u8 0, .int .u8 0, .int .u8 0, .int .u8 0, .int .u8 0, .int .u8 0, .int .u8 0] 5)
    go_loopw [0, 7] (fun m i wr => ∃ j : Nat, j ≤ 8 ∧ i = .int .i64 (8 - 1 - (j : Int)) ∧ m = .int .u64 (n / 256 ^ j) ∧ wr.ownsRow w.heap.size 5 1 (.slice (some ⟨w.heap.size, 0, none⟩) 8 8) 8 (by8 (Oct.back 8 j n)) ∧ Below w.heap.size w wr) (fun _ i _ => (intOf i + 1).toNat)
    case atStart => exact ⟨0, by decide, rfl, by simp, hown, hB⟩
    case round =>
      obtain ⟨j, hj, rfl, rfl, ho, hB⟩ := hrel
      clear hmk hown
      have hjs : j = 0 ∨ j = 1 ∨ j = 2 ∨ j = 3 ∨ j = 4 ∨ j = 5 ∨ j = 6 ∨ j = 7 ∨ j = 8 := by omega
      rcases hjs with rfl | rfl | rfl | rfl | rfl | rfl | rfl | rfl | rfl
      · have hf := ho.frozenAt 7
        have hc := ho.cellAt 7 (by decide)
        simp only [Oct.back, by8, List.replicate, List.map_cons, List.map_append, List.cons_append, List.getElem?_cons_zero, List.getElem?_cons_succ, Nat.reduceSub] at hc
        have hst := (ho.stored 7 (.int .u8 (n / 256 ^ 0 % 256))).1
        rw [show (7 : Nat) = 8 - 1 - 0 from rfl, Oct.back_set 8 0 n _ (by decide) rfl] at hst
        have Hst := Lib.hid hst
        clear hst
        go_wp2
        go_roundw
        case rel => exact ⟨1, by decide, by rfl, by first | (simp; done) | (simp; omega), by simpa using Hst.out, hB.setCell (Nat.le_refl _) _⟩
        case measure => simp [intOf]
      · have hf := ho.frozenAt 6
        have hc := ho.cellAt 6 (by decide)
        simp only [Oct.back, by8, List.replicate, List.map_cons, List.map_append, List.cons_append, List.getElem?_cons_zero, List.getElem?_cons_succ, Nat.reduceSub] at hc
        have hst := (ho.stored 6 (.int .u8 (n / 256 ^ 1 % 256))).1
        rw [show (6 : Nat) = 8 - 1 - 1 from rfl, Oct.back_set 8 1 n _ (by decide) rfl] at hst
        have Hst := Lib.hid hst
        clear hst
        go_wp2
        go_roundw
        case rel => exact ⟨2, by decide, by rfl, by first | (simp; done) | (simp; omega), by simpa using Hst.out, hB.setCell (Nat.le_refl _) _⟩
        case measure => simp [intOf]
      · have hf := ho.frozenAt 5
        have hc := ho.cellAt 5 (by decide)
        simp only [Oct.back, by8, List.replicate, List.map_cons, List.map_append, List.cons_append, List.getElem?_cons_zero, List.getElem?_cons_succ, Nat.reduceSub] at hc
        have hst := (ho.stored 5 (.int .u8 (n / 256 ^ 2 % 256))).1
        rw [show (5 : Nat) = 8 - 1 - 2 from rfl, Oct.back_set 8 2 n _ (by decide) rfl] at hst
        have Hst := Lib.hid hst
        clear hst
        go_wp2
        go_roundw
        case rel => exact ⟨3, by decide, by rfl, by first | (simp; done) | (simp; omega), by simpa using Hst.out, hB.setCell (Nat.le_refl _) _⟩
        case measure => simp [intOf]
      · have hf := ho.frozenAt 4
        have hc := ho.cellAt 4 (by decide)
        simp only [Oct.back, by8, List.replicate, List.map_cons, List.map_append, List.cons_append, List.getElem?_cons_zero, List.getElem?_cons_succ, Nat.reduceSub] at hc
        have hst := (ho.stored 4 (.int .u8 (n / 256 ^ 3 % 256))).1
        rw [show (4 : Nat) = 8 - 1 - 3 from rfl, Oct.back_set 8 3 n _ (by decide) rfl] at hst
        have Hst := Lib.hid hst
        clear hst
        go_wp2
        go_roundw
        case rel => exact ⟨4, by decide, by rfl, by first | (simp; done) | (simp; omega), by simpa using Hst.out, hB.setCell (Nat.le_refl _) _⟩
        case measure => simp [intOf]
      · have hf := ho.frozenAt 3
        have hc := ho.cellAt 3 (by decide)
        simp only [Oct.back, by8, List.replicate, List.map_cons, List.map_append, List.cons_append, List.getElem?_cons_zero, List.getElem?_cons_succ, Nat.reduceSub] at hc
        have hst := (ho.stored 3 (.int .u8 (n / 256 ^ 4 % 256))).1
        rw [show (3 : Nat) = 8 - 1 - 4 from rfl, Oct.back_set 8 4 n _ (by decide) rfl] at hst
        have Hst := Lib.hid hst
        clear hst
        go_wp2
        go_roundw
        case rel => exact ⟨5, by decide, by rfl, by first | (simp; done) | (simp; omega), by simpa using Hst.out, hB.setCell (Nat.le_refl _) _⟩
        case measure => simp [intOf]
      · have hf := ho.frozenAt 2
        have hc := ho.cellAt 2 (by decide)
        simp only [Oct.back, by8, List.replicate, List.map_cons, List.map_append, List.cons_append, List.getElem?_cons_zero, List.getElem?_cons_succ, Nat.reduceSub] at hc
        have hst := (ho.stored 2 (.int .u8 (n / 256 ^ 5 % 256))).1
        rw [show (2 : Nat) = 8 - 1 - 5 from rfl, Oct.back_set 8 5 n _ (by decide) rfl] at hst
        have Hst := Lib.hid hst
        clear hst
        go_wp2
        go_roundw
        case rel => exact ⟨6, by decide, by rfl, by first | (simp; done) | (simp; omega), by simpa using Hst.out, hB.setCell (Nat.le_refl _) _⟩
        case measure => simp [intOf]
      · have hf := ho.frozenAt 1
        have hc := ho.cellAt 1 (by decide)
        simp only [Oct.back, by8, List.replicate, List.map_cons, List.map_append, List.cons_append, List.getElem?_cons_zero, List.getElem?_cons_succ, Nat.reduceSub] at hc
        have hst := (ho.stored 1 (.int .u8 (n / 256 ^ 6 % 256))).1
        rw [show (1 : Nat) = 8 - 1 - 6 from rfl, Oct.back_set 8 6 n _ (by decide) rfl] at hst
        have Hst := Lib.hid hst
        clear hst
        go_wp2
        go_roundw
        case rel => exact ⟨7, by decide, by rfl, by first | (simp; done) | (simp; omega), by simpa using Hst.out, hB.setCell (Nat.le_refl _) _⟩
        case measure => simp [intOf]
      · have hf := ho.frozenAt 0
        have hc := ho.cellAt 0 (by decide)
        simp only [Oct.back, by8, List.replicate, List.map_cons, List.map_append, List.cons_append, List.getElem?_cons_zero, List.getElem?_cons_succ, Nat.reduceSub] at hc
        have hst := (ho.stored 0 (.int .u8 (n / 256 ^ 7 % 256))).1
        rw [show (0 : Nat) = 8 - 1 - 7 from rfl, Oct.back_set 8 7 n _ (by decide) rfl] at hst
        have Hst := Lib.hid hst
        clear hst
        go_wp2
        go_roundw
        case rel => exact ⟨8, by decide, by rfl, by first | (simp; done) | (simp; omega), by simpa using Hst.out, hB.setCell (Nat.le_refl _) _⟩
        case measure => simp [intOf]
      · have hfit : Oct.fitsB 8 n = true := by simp [Oct.fitsB]; omega
        have hz2 : n / 256 ^ 8 = 0 := by simp; omega
        have hv : Oct.putB n 8 = Oct.beB 8 n := by unfold Oct.putB; rw [Hw.out, hfit]; rfl
        have he : Oct.putE n 8 = 0 := by unfold Oct.putE; rw [Hw.out, hfit]; rfl
        have Hv := Lib.hid hv
        have He := Lib.hid he
        clear hv he hfit
        go_wp2
        go_ret2
        exact RetBy.of Hv.out He.out (by rw [Oct.beB_len]; rw [Oct.back_all] at ho; exact ho) hB

/-- The reference's Put. -/
theorem putR_c (n wd : Int) (w : World) (h0 : 0 ≤ n) (h1 : n ≤ 18446744073709551615) :
    Calls Tryz.prog 104 #[.int .u64 n, .int .i64 wd] w (RetBy w.heap.size (Oct.putB n wd) (Oct.putE n wd) w) := by
  cases hw : Oct.okW wd with
  | false =>
    have hv : Oct.putB n wd = [] := by unfold Oct.putB; rw [hw]; rfl
    have he : Oct.putE n wd = 2 := by unfold Oct.putE; rw [hw]; rfl
    rw [hv, he]
    exact putR_bad_c n wd w hw
  | true => exact putR_ok_c n wd w h0 h1 hw
end Go.Proofs.YtpkonagjnfphkaaGreatDoor

namespace Go.Proofs.YtpkonagjnfphkaaGreatDoor
open Go.RowKit
set_option linter.unusedSimpArgs false
set_option linter.unusedVariables false

namespace Oct
def getV (l : List UInt8) : Int := if okW l.length then beV l else 0
def getE (l : List UInt8) : Int := if okW l.length then 0 else 2
theorem take_snoc (l : List UInt8) (k : Nat) (h : k < l.length) : l.take (k + 1) = l.take k ++ [l[k]] := by rw [List.take_succ_eq_append_getElem h]
theorem beV_take (l : List UInt8) (k : Nat) (h : k < l.length) : beV (l.take (k + 1)) = beV (l.take k) * 256 + (l[k].toNat : Int) := by rw [take_snoc l k h, beV_snoc]
theorem pow_mono {a b : Nat} (h : a ≤ b) : (256 : Int) ^ a ≤ 256 ^ b := by
  have := Int.ofNat_le.2 (Nat.pow_le_pow_right (show 0 < 256 by decide) h)
  rw [Int.natCast_pow, Int.natCast_pow] at this
  exact this
theorem beV_take_b (l : List UInt8) (k : Nat) (hk : k ≤ 8) : 0 ≤ beV (l.take k) ∧ (k < 8 → beV (l.take k) < 72057594037927936) ∧ beV (l.take k) < 18446744073709551616 := by
  have h0 := beV_lo (l.take k)
  have h1 := beV_hi (l.take k)
  have hl : (l.take k).length ≤ k := List.length_take_le _ _
  refine ⟨h0, fun h => ?_, ?_⟩
  · have := pow_mono (show (l.take k).length ≤ 7 by omega)
    have e : (256 : Int) ^ 7 = 72057594037927936 := by decide
    omega
  · have := pow_mono (show (l.take k).length ≤ 8 by omega)
    have e : (256 : Int) ^ 8 = 18446744073709551616 := by decide
    omega
end Oct
theorem or_byte (x c : Int) (hx0 : 0 ≤ x) (hx : x < 72057594037927936) (hc0 : 0 ≤ c) (hc : c < 256) : bits BinOp.or IntKind.u64 (x * 256) c = x * 256 + c := by
  have h := bits_or_u64_nat (x * 256).toNat c.toNat (by omega) (by omega)
  rw [Int.toNat_of_nonneg (by omega), Int.toNat_of_nonneg hc0] at h
  rw [h]
  have e : (x * 256).toNat = x.toNat <<< 8 := by rw [Nat.shiftLeft_eq]; omega
  rw [e, ← Nat.shiftLeft_add_eq_or_of_lt (by omega : c.toNat < 2 ^ 8), Nat.shiftLeft_eq]
  omega

theorem number_field (x y : Value) (w : World) : (Instr.field 156 (.agg #[x, y]) 0).run Tryz.prog w = .ok x w := by kernel_rfl

theorem get_bad_c (l : List UInt8) (v : Value) (n : Nat) (w : World) (hv : Sl w 1 v n (by8 l)) (hw : Oct.okW n = false) :
    Calls Tryz.prog 163 #[v] w fun e w' => e = .returned (.tuple #[.int .u64 0, .int .i64 2]) ∧ Below w.heap.size w w' := by
  have Hw := Lib.hid hw; clear hw
  obtain ⟨a1, c1, rfl⟩ := hv.len
  have hfld := number_field
  go_enter Tryz.func163, Tryz.ntmps163
  go_wp2_with (go_at_call 118; refine (is_c _ _).mono ?_; rw [Hw.out]; rintro e w1 ⟨rfl, hb⟩)
  go_ret2
  exact ⟨rfl, hb⟩

theorem get_ok_c (l : List UInt8) (v : Value) (n : Nat) (w : World) (hv : Sl w 1 v n (by8 l)) (hw : Oct.okW n = true) :
    Calls Tryz.prog 163 #[v] w fun e w' => e = .returned (.tuple #[.int .u64 (Oct.beV l), .int .i64 0]) ∧ Below w.heap.size w w' := by
  have Hw := Lib.hid hw
  have hn8 : n ≤ 8 := by have := Oct.okW_cases hw; omega
  have hln := hv.n_len
  have Hln := Lib.hid hln
  clear hw hln
  obtain ⟨a1, c1, rfl⟩ := hv.len
  have hfld := number_field
  go_enter Tryz.func163, Tryz.ntmps163
  go_wp2_with (go_at_call 118; refine (is_c _ _).mono ?_; rw [Hw.out]; rintro e w1 ⟨rfl, hb⟩)
  go_loop [4, 15] (fun m i => ∃ k : Nat, k ≤ n ∧ i = .int .i64 k ∧ m = .int .u64 (Oct.beV (l.take k))) (fun _ i => n - (intOf i).toNat)
  case atStart => exact ⟨0, Nat.zero_le _, rfl, rfl⟩
  case round =>
    obtain ⟨k, hk, rfl, rfl⟩ := hrel
    obtain ⟨b0, b1, b2⟩ := Oct.beV_take_b l k (by omega)
    by_cases hlt : k < n
    · have hlt' : k < l.length := by rw [Hln.out]; exact hlt
      obtain ⟨b, off, rfl, hc⟩ := (hv.up hb).cellAt (k := k) (by omega) (by omega)
      rw [by8_get l k hlt'] at hc
      have hx := b1 (by omega)
      have Hs := Lib.hid (Oct.beV_take l k hlt')
      have hb8 : (l[k].toNat : Int) < 256 := by have := l[k].toNat_lt; omega
      have Ho := Lib.hid (or_byte (Oct.beV (l.take k)) (l[k].toNat : Int) b0 hx (by omega) hb8)
      generalize hX : Oct.beV (l.take k) = X at *
      generalize hY : (l[k].toNat : Int) = Y at *
      go_wp2
      go_round
      case rel => exact ⟨k + 1, by omega, by go_num, by rw [Ho.out, Hs.out]⟩
      case measure => simp [intOf]; omega
    · obtain rfl : k = n := by omega
      have ht : l.take k = l := List.take_of_length_le (by rw [Hln.out]; exact Nat.le_refl _)
      have Ht := Lib.hid ht
      clear ht
      go_wp2
      go_ret2
      exact ⟨by rw [Ht.out]; rfl, hb⟩

theorem getR_bad_c (l : List UInt8) (v : Value) (n : Nat) (w : World) (hv : Sl w 1 v n (by8 l)) (hw : Oct.okW n = false) :
    Calls Tryz.prog 168 #[v] w fun e w' => e = .returned (.tuple #[.int .u64 0, .int .i64 2]) ∧ w = w' := by
  have Hw := Lib.hid hw; clear hw
  obtain ⟨a1, c1, rfl⟩ := hv.len
  go_enter Tryz.func168, Tryz.ntmps168
  go_wp2_with (go_at_call 128; refine (widthR_c _ _).mono ?_; rw [Hw.out]; rintro e w1 ⟨rfl, rfl⟩)
  go_ret2
  exact ⟨rfl, rfl⟩

theorem getR_ok_c (l : List UInt8) (v : Value) (n : Nat) (w : World) (hv : Sl w 1 v n (by8 l)) (hw : Oct.okW n = true) :
    Calls Tryz.prog 168 #[v] w fun e w' => e = .returned (.tuple #[.int .u64 (Oct.beV l), .int .i64 0]) ∧ w = w' := by
  have Hw := Lib.hid hw
  have hn8 : n ≤ 8 := by have := Oct.okW_cases hw; omega
  have hln := hv.n_len
  have Hln := Lib.hid hln
  clear hw hln
  obtain ⟨a1, c1, rfl⟩ := hv.len
  go_enter Tryz.func168, Tryz.ntmps168
  go_wp2_with (go_at_call 128; refine (widthR_c _ _).mono ?_; rw [Hw.out]; rintro e w1 ⟨rfl, rfl⟩)
  go_loop [4, 5] (fun m i => ∃ k : Nat, k ≤ n ∧ i = .int .i64 k ∧ m = .int .u64 (Oct.beV (l.take k))) (fun _ i => n - (intOf i).toNat)
  case atStart => exact ⟨0, Nat.zero_le _, rfl, rfl⟩
  case round =>
    obtain ⟨k, hk, rfl, rfl⟩ := hrel
    obtain ⟨b0, b1, b2⟩ := Oct.beV_take_b l k (by omega)
    by_cases hlt : k < n
    · have hlt' : k < l.length := by rw [Hln.out]; exact hlt
      obtain ⟨b, off, rfl, hc⟩ := hv.cellAt (k := k) (by omega) (by omega)
      rw [by8_get l k hlt'] at hc
      have hx := b1 (by omega)
      have Hs := Lib.hid (Oct.beV_take l k hlt')
      have hb8 : (l[k].toNat : Int) < 256 := by have := l[k].toNat_lt; omega
      have Ho := Lib.hid (or_byte (Oct.beV (l.take k)) (l[k].toNat : Int) b0 hx (by omega) hb8)
      generalize hX : Oct.beV (l.take k) = X at *
      generalize hY : (l[k].toNat : Int) = Y at *
      go_wp2
      go_round
      case rel => exact ⟨k + 1, by omega, by go_num, by rw [Ho.out, Hs.out]⟩
      case measure => simp [intOf]; omega
    · obtain rfl : k = n := by omega
      have ht : l.take k = l := List.take_of_length_le (by rw [Hln.out]; exact Nat.le_refl _)
      have Ht := Lib.hid ht
      clear ht
      go_wp2
      go_ret2
      exact ⟨by rw [Ht.out]; rfl, rfl⟩

/-- octet.Get. -/
theorem get_c (l : List UInt8) (v : Value) (n : Nat) (w : World) (hv : Sl w 1 v n (by8 l)) :
    Calls Tryz.prog 163 #[v] w (Ret (.tuple #[.int .u64 (Oct.getV l), .int .i64 (Oct.getE l)]) w) := by
  have hln := hv.n_len
  unfold Oct.getV Oct.getE
  rw [hln]
  cases hw : Oct.okW n with
  | false => exact get_bad_c l v n w hv hw
  | true => exact get_ok_c l v n w hv hw
theorem getR_c (l : List UInt8) (v : Value) (n : Nat) (w : World) (hv : Sl w 1 v n (by8 l)) :
    Calls Tryz.prog 168 #[v] w fun e w' => e = .returned (.tuple #[.int .u64 (Oct.getV l), .int .i64 (Oct.getE l)]) ∧ w = w' := by
  have hln := hv.n_len
  unfold Oct.getV Oct.getE
  rw [hln]
  cases hw : Oct.okW n with
  | false => exact getR_bad_c l v n w hv hw
  | true => exact getR_ok_c l v n w hv hw

namespace Oct
/-- The width that is looked at in round k of the reference's Least. -/
def w3 (k : Nat) : Int := match k with | 0 => 1 | 1 => 2 | _ => 4
theorem putE_small (n wd : Int) (hw : okW wd = true) : putE n wd = if fitsB wd n then 0 else 4 := by unfold putE; rw [hw]; rfl
end Oct

set_option maxHeartbeats 1000000 in
theorem leastR_c (n : Int) (w : World) (h0 : 0 ≤ n) (h1 : n ≤ 18446744073709551615) : Calls Tryz.prog 110 #[.int .u64 n] w (Ret (.int .i64 (Oct.leastF n)) w) := by
  have hB0 := below_alloc w (.cells #[.int .i64 1, .int .i64 2, .int .i64 4] 3)
  have c0 : (w.alloc (.cells #[.int .i64 1, .int .i64 2, .int .i64 4] 3)).cell? ⟨w.heap.size, 0, none⟩ = some (.int .i64 1) := by simp [go_sem]
  have c1 : (w.alloc (.cells #[.int .i64 1, .int .i64 2, .int .i64 4] 3)).cell? ⟨w.heap.size, 1, none⟩ = some (.int .i64 2) := by simp [go_sem]
  have c2 : (w.alloc (.cells #[.int .i64 1, .int .i64 2, .int .i64 4] 3)).cell? ⟨w.heap.size, 2, none⟩ = some (.int .i64 4) := by simp [go_sem]
  go_enter Tryz.func110, Tryz.ntmps110
  go_wp2
  go_loopw [4] (fun i wr => ∃ k : Nat, k ≤ 3 ∧ i = .int .i64 k ∧ (∀ j, j < k → Oct.fitsB (Oct.w3 j) n = false) ∧ Below w.heap.size w wr ∧ wr.cell? ⟨w.heap.size, 0, none⟩ = some (.int .i64 1) ∧ wr.cell? ⟨w.heap.size, 1, none⟩ = some (.int .i64 2) ∧ wr.cell? ⟨w.heap.size, 2, none⟩ = some (.int .i64 4)) (fun i _ => 3 - (intOf i).toNat)
  case atStart => exact ⟨0, Nat.zero_le _, rfl, by intro j hj; omega, hB0, c0, c1, c2⟩
  case round =>
    clear c0 c1 c2 hB0
    obtain ⟨k, hk, rfl, hno, hB, c0, c1, c2⟩ := hrel
    have Hno := Lib.hid hno; clear hno
    have hks : k = 0 ∨ k = 1 ∨ k = 2 ∨ k = 3 := by omega
    rcases hks with rfl | rfl | rfl | rfl
    · cases hf : Oct.fitsB 1 n with
      | true =>
        have He := Lib.hid (show Oct.putE n 1 = 0 by rw [Oct.putE_small n 1 rfl, hf]; rfl)
        have Hf := Lib.hid hf
        clear hf
        go_wp2_with (go_at_call 104; refine (putR_c n 1 _ h0 h1).mono ?_; rintro e w1 ⟨v1, rfl, _, hb⟩; rw [He.out]; have c0 := cell_up hb c0; have c1 := cell_up hb c1; have c2 := cell_up hb c2)
        go_ret
        refine ⟨retI ?_, below_up hB hb⟩
        have hn := Oct.fitsB_lt Hf.out
        simp at hn
        unfold Oct.leastF
        rw [if_pos hn]
      | false =>
        have He := Lib.hid (show Oct.putE n 1 = 4 by rw [Oct.putE_small n 1 rfl, hf]; rfl)
        have Hf := Lib.hid hf
        clear hf
        go_wp2_with (go_at_call 104; refine (putR_c n 1 _ h0 h1).mono ?_; rintro e w1 ⟨v1, rfl, _, hb⟩; rw [He.out]; have c0 := cell_up hb c0; have c1 := cell_up hb c1; have c2 := cell_up hb c2)
        go_roundw
        case rel =>
          refine ⟨1, by decide, by rfl, fun j hj => ?_, below_up hB hb, c0, c1, c2⟩
          rcases Nat.lt_or_ge j 0 with h | h
          · exact Hno.out j h
          · obtain rfl : j = 0 := by omega
            exact Hf.out
        case measure => simp [intOf]
    · cases hf : Oct.fitsB 2 n with
      | true =>
        have He := Lib.hid (show Oct.putE n 2 = 0 by rw [Oct.putE_small n 2 rfl, hf]; rfl)
        have Hf := Lib.hid hf
        clear hf
        go_wp2_with (go_at_call 104; refine (putR_c n 2 _ h0 h1).mono ?_; rintro e w1 ⟨v1, rfl, _, hb⟩; rw [He.out]; have c0 := cell_up hb c0; have c1 := cell_up hb c1; have c2 := cell_up hb c2)
        go_ret
        refine ⟨retI ?_, below_up hB hb⟩
        have hn := Oct.fitsB_lt Hf.out
        simp at hn
        have p0 := Hno.out 0 (by decide)
        simp [Oct.fitsB, Oct.w3] at p0
        unfold Oct.leastF
        rw [if_neg (by omega), if_pos hn]
      | false =>
        have He := Lib.hid (show Oct.putE n 2 = 4 by rw [Oct.putE_small n 2 rfl, hf]; rfl)
        have Hf := Lib.hid hf
        clear hf
        go_wp2_with (go_at_call 104; refine (putR_c n 2 _ h0 h1).mono ?_; rintro e w1 ⟨v1, rfl, _, hb⟩; rw [He.out]; have c0 := cell_up hb c0; have c1 := cell_up hb c1; have c2 := cell_up hb c2)
        go_roundw
        case rel =>
          refine ⟨2, by decide, by rfl, fun j hj => ?_, below_up hB hb, c0, c1, c2⟩
          rcases Nat.lt_or_ge j 1 with h | h
          · exact Hno.out j h
          · obtain rfl : j = 1 := by omega
            exact Hf.out
        case measure => simp [intOf]
    · cases hf : Oct.fitsB 4 n with
      | true =>
        have He := Lib.hid (show Oct.putE n 4 = 0 by rw [Oct.putE_small n 4 rfl, hf]; rfl)
        have Hf := Lib.hid hf
        clear hf
        go_wp2_with (go_at_call 104; refine (putR_c n 4 _ h0 h1).mono ?_; rintro e w1 ⟨v1, rfl, _, hb⟩; rw [He.out]; have c0 := cell_up hb c0; have c1 := cell_up hb c1; have c2 := cell_up hb c2)
        go_ret
        refine ⟨retI ?_, below_up hB hb⟩
        have hn := Oct.fitsB_lt Hf.out
        simp at hn
        have p0 := Hno.out 0 (by decide)
        simp [Oct.fitsB, Oct.w3] at p0
        have p1 := Hno.out 1 (by decide)
        simp [Oct.fitsB, Oct.w3] at p1
        unfold Oct.leastF
        rw [if_neg (by omega), if_neg (by omega), if_pos hn]
      | false =>
        have He := Lib.hid (show Oct.putE n 4 = 4 by rw [Oct.putE_small n 4 rfl, hf]; rfl)
        have Hf := Lib.hid hf
        clear hf
        go_wp2_with (go_at_call 104; refine (putR_c n 4 _ h0 h1).mono ?_; rintro e w1 ⟨v1, rfl, _, hb⟩; rw [He.out]; have c0 := cell_up hb c0; have c1 := cell_up hb c1; have c2 := cell_up hb c2)
        go_roundw
        case rel =>
          refine ⟨3, by decide, by rfl, fun j hj => ?_, below_up hB hb, c0, c1, c2⟩
          rcases Nat.lt_or_ge j 2 with h | h
          · exact Hno.out j h
          · obtain rfl : j = 2 := by omega
            exact Hf.out
        case measure => simp [intOf]
    · go_wp2
      go_ret
      refine ⟨retI ?_, hB⟩
      have p0 := Hno.out 0 (by decide)
      have p1 := Hno.out 1 (by decide)
      have p2 := Hno.out 2 (by decide)
      simp [Oct.fitsB, Oct.w3] at p0 p1 p2
      unfold Oct.leastF
      rw [if_neg (by omega), if_neg (by omega), if_neg (by omega)]
end Go.Proofs.YtpkonagjnfphkaaGreatDoor
