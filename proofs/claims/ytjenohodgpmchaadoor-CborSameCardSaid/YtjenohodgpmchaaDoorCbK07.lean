/-
  OctetC: several texts in one (bundle.py).
-/
import Derived.Test.YtjenohodgpmchaaDoorCbK06
namespace Go.Proofs.YtjenohodgpmchaaDoor
open Go.RowKit
set_option linter.unusedSimpArgs false
set_option linter.unusedVariables false

theorem putR_bad_c (n wd : Int) (w : World) (hw : Oct.okW wd = false) :
    Calls Tryd.prog 55 #[.int .u64 n, .int .i64 wd] w (RetBy w.heap.size [] 2 w) := by
  have Hw := Lib.hid hw; clear hw
  go_enter Tryd.func55, Tryd.ntmps55
  go_wp2_with (go_at_call 71; refine (widthR_c _ _).mono ?_; rw [Hw.out]; rintro e w1 ⟨rfl, rfl⟩)
  go_ret2
  exact ⟨_, rfl, World.ownsRow_nil _ _ _ _, Below.refl _ _⟩

/-! ### The plain law: a row of bytes filled from behind -/
namespace Oct
/-- After j rounds: wd - j noughts, and the last j bytes. -/
def back (wd j : Nat) (n : Int) : List UInt8 := List.replicate (wd - j) 0 ++ beB j n
theorem beB_cons (k : Nat) (n : Int) : beB (k + 1) n = UInt8.ofNat (n / 256 ^ k % 256).toNat :: beB k n := by
  induction k generalizing n with
  | zero => simp [beB]
  | succ k ih =>
    rw [beB, ih (n / 256)]
    conv => rhs; rw [beB]
    rw [List.cons_append]
    congr 3
    rw [Int.ediv_ediv_of_nonneg (by decide), Int.mul_comm, ← Int.pow_succ]
theorem back_zero (wd : Nat) (n : Int) : back wd 0 n = List.replicate wd 0 := by simp [back, beB]
theorem back_all (wd : Nat) (n : Int) : back wd wd n = beB wd n := by simp [back]
theorem back_set (wd j : Nat) (n m : Int) (h : j < wd) (hm : n / 256 ^ j % 256 = m) : (by8 (back wd j n)).set (wd - 1 - j) (.int .u8 m) = by8 (back wd (j + 1) n) := by
  have e : wd - j = (wd - 1 - j) + 1 := by omega
  have e2 : wd - (j + 1) = wd - 1 - j := by omega
  unfold back
  rw [e, e2, beB_cons]
  generalize hk : wd - 1 - j = k
  have hb : by8 (List.replicate (k + 1) 0 ++ beB j n) = by8 (List.replicate k 0) ++ (.int .u8 0 :: by8 (beB j n)) := by
    rw [List.replicate_succ', List.append_assoc, by8_app]
    rfl
  rw [hb, List.set_append_right _ _ (by simp [by8_len]), by8_app]
  congr 1
  simp only [by8_len, List.length_replicate, Nat.sub_self, List.set_cons_zero]
  show _ :: by8 (beB j n) = Value.int .u8 (((UInt8.ofNat (n / 256 ^ j % 256).toNat).toNat : Nat) : Int) :: by8 (beB j n)
  rw [byte_mod, hm]
end Oct

set_option maxHeartbeats 1000000 in
theorem putR_ok_c (n wd : Int) (w : World) (h0 : 0 ≤ n) (h1 : n ≤ 18446744073709551615) (hw : Oct.okW wd = true) :
    Calls Tryd.prog 55 #[.int .u64 n, .int .i64 wd] w (RetBy w.heap.size (Oct.putB n wd) (Oct.putE n wd) w) := by
  have Hw := Lib.hid hw
  rcases Oct.okW_cases hw with rfl | rfl | rfl | rfl
  · clear hw
    have hmk : ∀ w : World, (Instr.makeSlice 22 (.int .i64 1) (.int .i64 1)).run Tryd.prog w = .ok (.slice (some ⟨w.heap.size, 0, none⟩) 1 1) (w.alloc (.cells #[.int .u8 0] 5)) := fun _ => by kernel_rfl
    have hown : (w.alloc (.cells #[.int .u8 0] 5)).ownsRow w.heap.size 5 1 (.slice (some ⟨w.heap.size, 0, none⟩) 1 1) 1 (by8 (Oct.back 1 0 n)) := World.ownsRow_lit w #[.int .u8 0] 1 (size := 1) (e := 5) (Nat.le_refl _) (by decide) rfl
    go_enter Tryd.func55, Tryd.ntmps55
    go_wp2_with (go_at_call 71; refine (widthR_c _ _).mono ?_; rw [Hw.out]; rintro e w1 ⟨rfl, rfl⟩)
    have hB := below_alloc w (.cells #[.int .u8 0] 5)
    go_loopw [0, 7] (fun m i wr => ∃ j : Nat, j ≤ 1 ∧ i = .int .i64 (1 - 1 - (j : Int)) ∧ m = .int .u64 (n / 256 ^ j) ∧ wr.ownsRow w.heap.size 5 1 (.slice (some ⟨w.heap.size, 0, none⟩) 1 1) 1 (by8 (Oct.back 1 j n)) ∧ Below w.heap.size w wr) (fun _ i _ => (intOf i + 1).toNat)
    case atStart => exact ⟨0, by decide, rfl, by simp, hown, hB⟩
    case round =>
      obtain ⟨j, hj, rfl, rfl, ho, hB⟩ := hrel
      clear hmk hown
      have hjs : j = 0 ∨ j = 1 := by omega
      rcases hjs with rfl | rfl
      · have hf := ho.frozenAt 0
        have hc := ho.cellAt 0 (by decide)
        simp only [Oct.back, by8, List.replicate, List.map_cons, List.map_append, List.cons_append, List.getElem?_cons_zero, List.getElem?_cons_succ, Nat.reduceSub] at hc
        have hst := (ho.stored 0 (.int .u8 (n / 256 ^ 0 % 256))).1
        rw [show (0 : Nat) = 1 - 1 - 0 from rfl, Oct.back_set 1 0 n _ (by decide) rfl] at hst
        have Hst := Lib.hid hst
        clear hst
        go_wp2
        go_roundw
        case rel => exact ⟨1, by decide, by rfl, by first | (simp; done) | (simp; omega), by simpa using Hst.out, hB.setCell (Nat.le_refl _) _⟩
        case measure => simp [intOf]
      · cases hfit : Oct.fitsB 1 n with
        | true =>
          have hz := Oct.fitsB_lt hfit
          simp at hz
          have hz2 : n / 256 ^ 1 = 0 := by simp; omega
          have Hz2 := Lib.hid hz2
          have hv : Oct.putB n 1 = Oct.beB 1 n := by unfold Oct.putB; rw [Hw.out, hfit]; rfl
          have he : Oct.putE n 1 = 0 := by unfold Oct.putE; rw [Hw.out, hfit]; rfl
          have Hv := Lib.hid hv
          have He := Lib.hid he
          clear hv he hfit hz
          go_wp2
          go_ret2
          exact RetBy.of Hv.out He.out (by rw [Oct.beB_len]; rw [Oct.back_all] at ho; exact ho) hB
        | false =>
          have hz : ¬ n < 256 ^ (1 : Int).toNat := by simpa [Oct.fitsB] using hfit
          simp at hz
          have hz2 : 0 < n / 256 ^ 1 := by simp; omega
          have hv : Oct.putB n 1 = [] := by unfold Oct.putB; rw [Hw.out, hfit]; rfl
          have he : Oct.putE n 1 = 4 := by unfold Oct.putE; rw [Hw.out, hfit]; rfl
          have Hv := Lib.hid hv
          have He := Lib.hid he
          clear hv he hfit hz
          go_wp2
          go_ret2
          exact RetBy.of Hv.out He.out (World.ownsRow_nil _ _ _ _) hB
  · clear hw
    have hmk : ∀ w : World, (Instr.makeSlice 22 (.int .i64 2) (.int .i64 2)).run Tryd.prog w = .ok (.slice (some ⟨w.heap.size, 0, none⟩) 2 2) (w.alloc (.cells #[.int .u8 0, .int .u8 0] 5)) := fun _ => by kernel_rfl
    have hown : (w.alloc (.cells #[.int .u8 0, .int .u8 0] 5)).ownsRow w.heap.size 5 1 (.slice (some ⟨w.heap.size, 0, none⟩) 2 2) 2 (by8 (Oct.back 2 0 n)) := World.ownsRow_lit w #[.int .u8 0, .int .u8 0] 2 (size := 1) (e := 5) (Nat.le_refl _) (by decide) rfl
    go_enter Tryd.func55, Tryd.ntmps55
    go_wp2_with (go_at_call 71; refine (widthR_c _ _).mono ?_; rw [Hw.out]; rintro e w1 ⟨rfl, rfl⟩)
    have hB := below_alloc w (.cells #[.int .u8 0, .int .u8 0] 5)
    go_loopw [0, 7] (fun m i wr => ∃ j : Nat, j ≤ 2 ∧ i = .int .i64 (2 - 1 - (j : Int)) ∧ m = .int .u64 (n / 256 ^ j) ∧ wr.ownsRow w.heap.size 5 1 (.slice (some ⟨w.heap.size, 0, none⟩) 2 2) 2 (by8 (Oct.back 2 j n)) ∧ Below w.heap.size w wr) (fun _ i _ => (intOf i + 1).toNat)
    case atStart => exact ⟨0, by decide, rfl, by simp, hown, hB⟩
    case round =>
      obtain ⟨j, hj, rfl, rfl, ho, hB⟩ := hrel
      clear hmk hown
      have hjs : j = 0 ∨ j = 1 ∨ j = 2 := by omega
      rcases hjs with rfl | rfl | rfl
      · have hf := ho.frozenAt 1
        have hc := ho.cellAt 1 (by decide)
        simp only [Oct.back, by8, List.replicate, List.map_cons, List.map_append, List.cons_append, List.getElem?_cons_zero, List.getElem?_cons_succ, Nat.reduceSub] at hc
        have hst := (ho.stored 1 (.int .u8 (n / 256 ^ 0 % 256))).1
        rw [show (1 : Nat) = 2 - 1 - 0 from rfl, Oct.back_set 2 0 n _ (by decide) rfl] at hst
        have Hst := Lib.hid hst
        clear hst
        go_wp2
        go_roundw
        case rel => exact ⟨1, by decide, by rfl, by first | (simp; done) | (simp; omega), by simpa using Hst.out, hB.setCell (Nat.le_refl _) _⟩
        case measure => simp [intOf]
      · have hf := ho.frozenAt 0
        have hc := ho.cellAt 0 (by decide)
        simp only [Oct.back, by8, List.replicate, List.map_cons, List.map_append, List.cons_append, List.getElem?_cons_zero, List.getElem?_cons_succ, Nat.reduceSub] at hc
        have hst := (ho.stored 0 (.int .u8 (n / 256 ^ 1 % 256))).1
        rw [show (0 : Nat) = 2 - 1 - 1 from rfl, Oct.back_set 2 1 n _ (by decide) rfl] at hst
        have Hst := Lib.hid hst
        clear hst
        go_wp2
        go_roundw
        case rel => exact ⟨2, by decide, by rfl, by first | (simp; done) | (simp; omega), by simpa using Hst.out, hB.setCell (Nat.le_refl _) _⟩
        case measure => simp [intOf]
      · cases hfit : Oct.fitsB 2 n with
        | true =>
          have hz := Oct.fitsB_lt hfit
          simp at hz
          have hz2 : n / 256 ^ 2 = 0 := by simp; omega
          have Hz2 := Lib.hid hz2
          have hv : Oct.putB n 2 = Oct.beB 2 n := by unfold Oct.putB; rw [Hw.out, hfit]; rfl
          have he : Oct.putE n 2 = 0 := by unfold Oct.putE; rw [Hw.out, hfit]; rfl
          have Hv := Lib.hid hv
          have He := Lib.hid he
          clear hv he hfit hz
          go_wp2
          go_ret2
          exact RetBy.of Hv.out He.out (by rw [Oct.beB_len]; rw [Oct.back_all] at ho; exact ho) hB
        | false =>
          have hz : ¬ n < 256 ^ (2 : Int).toNat := by simpa [Oct.fitsB] using hfit
          simp at hz
          have hz2 : 0 < n / 256 ^ 2 := by simp; omega
          have hv : Oct.putB n 2 = [] := by unfold Oct.putB; rw [Hw.out, hfit]; rfl
          have he : Oct.putE n 2 = 4 := by unfold Oct.putE; rw [Hw.out, hfit]; rfl
          have Hv := Lib.hid hv
          have He := Lib.hid he
          clear hv he hfit hz
          go_wp2
          go_ret2
          exact RetBy.of Hv.out He.out (World.ownsRow_nil _ _ _ _) hB
  · clear hw
    have hmk : ∀ w : World, (Instr.makeSlice 22 (.int .i64 4) (.int .i64 4)).run Tryd.prog w = .ok (.slice (some ⟨w.heap.size, 0, none⟩) 4 4) (w.alloc (.cells #[.int .u8 0, .int .u8 0, .int .u8 0, .int .u8 0] 5)) := fun _ => by kernel_rfl
    have hown : (w.alloc (.cells #[.int .u8 0, .int .u8 0, .int .u8 0, .int .u8 0] 5)).ownsRow w.heap.size 5 1 (.slice (some ⟨w.heap.size, 0, none⟩) 4 4) 4 (by8 (Oct.back 4 0 n)) := World.ownsRow_lit w #[.int .u8 0, .int .u8 0, .int .u8 0, .int .u8 0] 4 (size := 1) (e := 5) (Nat.le_refl _) (by decide) rfl
    go_enter Tryd.func55, Tryd.ntmps55
    go_wp2_with (go_at_call 71; refine (widthR_c _ _).mono ?_; rw [Hw.out]; rintro e w1 ⟨rfl, rfl⟩)
    have hB := below_alloc w (.cells #[.int .u8 0, .int .u8 0, .int .u8 0, .int .u8 0] 5)
    go_loopw [0, 7] (fun m i wr => ∃ j : Nat, j ≤ 4 ∧ i = .int .i64 (4 - 1 - (j : Int)) ∧ m = .int .u64 (n / 256 ^ j) ∧ wr.ownsRow w.heap.size 5 1 (.slice (some ⟨w.heap.size, 0, none⟩) 4 4) 4 (by8 (Oct.back 4 j n)) ∧ Below w.heap.size w wr) (fun _ i _ => (intOf i + 1).toNat)
    case atStart => exact ⟨0, by decide, rfl, by simp, hown, hB⟩
    case round =>
      obtain ⟨j, hj, rfl, rfl, ho, hB⟩ := hrel
      clear hmk hown
      have hjs : j = 0 ∨ j = 1 ∨ j = 2 ∨ j = 3 ∨ j = 4 := by omega
      rcases hjs with rfl | rfl | rfl | rfl | rfl
      · have hf := ho.frozenAt 3
        have hc := ho.cellAt 3 (by decide)
        simp only [Oct.back, by8, List.replicate, List.map_cons, List.map_append, List.cons_append, List.getElem?_cons_zero, List.getElem?_cons_succ, Nat.reduceSub] at hc
        have hst := (ho.stored 3 (.int .u8 (n / 256 ^ 0 % 256))).1
        rw [show (3 : Nat) = 4 - 1 - 0 from rfl, Oct.back_set 4 0 n _ (by decide) rfl] at hst
        have Hst := Lib.hid hst
        clear hst
        go_wp2
        go_roundw
        case rel => exact ⟨1, by decide, by rfl, by first | (simp; done) | (simp; omega), by simpa using Hst.out, hB.setCell (Nat.le_refl _) _⟩
        case measure => simp [intOf]
      · have hf := ho.frozenAt 2
        have hc := ho.cellAt 2 (by decide)
        simp only [Oct.back, by8, List.replicate, List.map_cons, List.map_append, List.cons_append, List.getElem?_cons_zero, List.getElem?_cons_succ, Nat.reduceSub] at hc
        have hst := (ho.stored 2 (.int .u8 (n / 256 ^ 1 % 256))).1
        rw [show (2 : Nat) = 4 - 1 - 1 from rfl, Oct.back_set 4 1 n _ (by decide) rfl] at hst
        have Hst := Lib.hid hst
        clear hst
        go_wp2
        go_roundw
        case rel => exact ⟨2, by decide, by rfl, by first | (simp; done) | (simp; omega), by simpa using Hst.out, hB.setCell (Nat.le_refl _) _⟩
        case measure => simp [intOf]
      · have hf := ho.frozenAt 1
        have hc := ho.cellAt 1 (by decide)
        simp only [Oct.back, by8, List.replicate, List.map_cons, List.map_append, List.cons_append, List.getElem?_cons_zero, List.getElem?_cons_succ, Nat.reduceSub] at hc
        have hst := (ho.stored 1 (.int .u8 (n / 256 ^ 2 % 256))).1
        rw [show (1 : Nat) = 4 - 1 - 2 from rfl, Oct.back_set 4 2 n _ (by decide) rfl] at hst
        have Hst := Lib.hid hst
        clear hst
        go_wp2
        go_roundw
        case rel => exact ⟨3, by decide, by rfl, by first | (simp; done) | (simp; omega), by simpa using Hst.out, hB.setCell (Nat.le_refl _) _⟩
        case measure => simp [intOf]
      · have hf := ho.frozenAt 0
        have hc := ho.cellAt 0 (by decide)
        simp only [Oct.back, by8, List.replicate, List.map_cons, List.map_append, List.cons_append, List.getElem?_cons_zero, List.getElem?_cons_succ, Nat.reduceSub] at hc
        have hst := (ho.stored 0 (.int .u8 (n / 256 ^ 3 % 256))).1
        rw [show (0 : Nat) = 4 - 1 - 3 from rfl, Oct.back_set 4 3 n _ (by decide) rfl] at hst
        have Hst := Lib.hid hst
        clear hst
        go_wp2
        go_roundw
        case rel => exact ⟨4, by decide, by rfl, by first | (simp; done) | (simp; omega), by simpa using Hst.out, hB.setCell (Nat.le_refl _) _⟩
        case measure => simp [intOf]
      · cases hfit : Oct.fitsB 4 n with
        | true =>
          have hz := Oct.fitsB_lt hfit
          simp at hz
          have hz2 : n / 256 ^ 4 = 0 := by simp; omega
          have Hz2 := Lib.hid hz2
          have hv : Oct.putB n 4 = Oct.beB 4 n := by unfold Oct.putB; rw [Hw.out, hfit]; rfl
          have he : Oct.putE n 4 = 0 := by unfold Oct.putE; rw [Hw.out, hfit]; rfl
          have Hv := Lib.hid hv
          have He := Lib.hid he
          clear hv he hfit hz
          go_wp2
          go_ret2
          exact RetBy.of Hv.out He.out (by rw [Oct.beB_len]; rw [Oct.back_all] at ho; exact ho) hB
        | false =>
          have hz : ¬ n < 256 ^ (4 : Int).toNat := by simpa [Oct.fitsB] using hfit
          simp at hz
          have hz2 : 0 < n / 256 ^ 4 := by simp; omega
          have hv : Oct.putB n 4 = [] := by unfold Oct.putB; rw [Hw.out, hfit]; rfl
          have he : Oct.putE n 4 = 4 := by unfold Oct.putE; rw [Hw.out, hfit]; rfl
          have Hv := Lib.hid hv
          have He := Lib.hid he
          clear hv he hfit hz
          go_wp2
          go_ret2
          exact RetBy.of Hv.out He.out (World.ownsRow_nil _ _ _ _) hB
  · clear hw
    have hmk : ∀ w : World, (Instr.makeSlice 22 (.int .i64 8) (.int .i64 8)).run Tryd.prog w = .ok (.slice (some ⟨w.heap.size, 0, none⟩) 8 8) (w.alloc (.cells #[.int .u8 0, .int .u8 0, .int .u8 0, .int .u8 0, .int .u8 0, .int .u8 0, .int .u8 0, .int .u8 0] 5)) := fun _ => by kernel_rfl
    have hown : (w.alloc (.cells #[.int .u8 0, .int .u8 0, .int .u8 0, .int .u8 0, .int .u8 0, .int .u8 0, .int .u8 0, .int .u8 0] 5)).ownsRow w.heap.size 5 1 (.slice (some ⟨w.heap.size, 0, none⟩) 8 8) 8 (by8 (Oct.back 8 0 n)) := World.ownsRow_lit w #[.int .u8 0, .int .u8 0, .int .u8 0, .int .u8 0, .int .u8 0, .int .u8 0, .int .u8 0, .int .u8 0] 8 (size := 1) (e := 5) (Nat.le_refl _) (by decide) rfl
    go_enter Tryd.func55, Tryd.ntmps55
    go_wp2_with (go_at_call 71; refine (widthR_c _ _).mono ?_; rw [Hw.out]; rintro e w1 ⟨rfl, rfl⟩)
    have hB := below_alloc w (.cells #[.int .u8 0, .int .u8 0, .int .u8 0, .int .u8 0, .int .u8 0, .int .u8 0, .int .u8 0, .int .u8 0] 5)
    go_loopw [0, 7] (fun m i wr => ∃ j : Nat, j ≤ 8 ∧ i = .int .i64 (8 - 1 - (j : Int)) ∧ m = .int .u64 (n / 256 ^ j) ∧ wr.ownsRow w.heap.size 5 1 (.slice (some ⟨w.heap.size, 0, none⟩) 8 8) 8 (by8 (Oct.back 8 j n)) ∧ Below w.heap.size w wr) (fun _ i _ => (intOf i + 1).toNat)
    case atStart => exact ⟨0, by decide, rfl, by simp, hown, hB⟩
    case round =>
      obtain ⟨j, hj, rfl, rfl, ho, hB⟩ := hrel
      clear hmk hown
      have hjs : j = 0 ∨ j = 1 ∨ j = 2 ∨ j = 3 ∨ j = 4 ∨ j = 5 ∨ j = 6 ∨ j = 7 ∨ j = 8 := by omega
      rcases hjs with rfl | rfl | rfl | rfl | rfl | rfl | rfl | rfl | rfl
      · have hf := ho.frozenAt 7
        have hc := ho.cellAt 7 (by decide)
        simp only [Oct.back, by8, List.replicate, List.map_cons, List.map_append, List.cons_append, List.getElem?_cons_zero, List.getElem?_cons_succ, Nat.reduceSub] at hc
        have hst := (ho.stored 7 (.int .u8 (n / 256 ^ 0 % 256))).1
        rw [show (7 : Nat) = 8 - 1 - 0 from rfl, Oct.back_set 8 0 n _ (by decide) rfl] at hst
        have Hst := Lib.hid hst
        clear hst
        go_wp2
        go_roundw
        case rel => exact ⟨1, by decide, by rfl, by first | (simp; done) | (simp; omega), by simpa using Hst.out, hB.setCell (Nat.le_refl _) _⟩
        case measure => simp [intOf]
      · have hf := ho.frozenAt 6
        have hc := ho.cellAt 6 (by decide)
        simp only [Oct.back, by8, List.replicate, List.map_cons, List.map_append, List.cons_append, List.getElem?_cons_zero, List.getElem?_cons_succ, Nat.reduceSub] at hc
        have hst := (ho.stored 6 (.int .u8 (n / 256 ^ 1 % 256))).1
        rw [show (6 : Nat) = 8 - 1 - 1 from rfl, Oct.back_set 8 1 n _ (by decide) rfl] at hst
        have Hst := Lib.hid hst
        clear hst
        go_wp2
        go_roundw
        case rel => exact ⟨2, by decide, by rfl, by first | (simp; done) | (simp; omega), by simpa using Hst.out, hB.setCell (Nat.le_refl _) _⟩
        case measure => simp [intOf]
      · have hf := ho.frozenAt 5
        have hc := ho.cellAt 5 (by decide)
        simp only [Oct.back, by8, List.replicate, List.map_cons, List.map_append, List.cons_append, List.getElem?_cons_zero, List.getElem?_cons_succ, Nat.reduceSub] at hc
        have hst := (ho.stored 5 (.int .u8 (n / 256 ^ 2 % 256))).1
        rw [show (5 : Nat) = 8 - 1 - 2 from rfl, Oct.back_set 8 2 n _ (by decide) rfl] at hst
        have Hst := Lib.hid hst
        clear hst
        go_wp2
        go_roundw
        case rel => exact ⟨3, by decide, by rfl, by first | (simp; done) | (simp; omega), by simpa using Hst.out, hB.setCell (Nat.le_refl _) _⟩
        case measure => simp [intOf]
      · have hf := ho.frozenAt 4
        have hc := ho.cellAt 4 (by decide)
        simp only [Oct.back, by8, List.replicate, List.map_cons, List.map_append, List.cons_append, List.getElem?_cons_zero, List.getElem?_cons_succ, Nat.reduceSub] at hc
        have hst := (ho.stored 4 (.int .u8 (n / 256 ^ 3 % 256))).1
        rw [show (4 : Nat) = 8 - 1 - 3 from rfl, Oct.back_set 8 3 n _ (by decide) rfl] at hst
        have Hst := Lib.hid hst
        clear hst
        go_wp2
        go_roundw
        case rel => exact ⟨4, by decide, by rfl, by first | (simp; done) | (simp; omega), by simpa using Hst.out, hB.setCell (Nat.le_refl _) _⟩
        case measure => simp [intOf]
      · have hf := ho.frozenAt 3
        have hc := ho.cellAt 3 (by decide)
        simp only [Oct.back, by8, List.replicate, List.map_cons, List.map_append, List.cons_append, List.getElem?_cons_zero, List.getElem?_cons_succ, Nat.reduceSub] at hc
        have hst := (ho.stored 3 (.int .u8 (n / 256 ^ 4 % 256))).1
        rw [show (3 : Nat) = 8 - 1 - 4 from rfl, Oct.back_set 8 4 n _ (by decide) rfl] at hst
        have Hst := Lib.hid hst
        clear hst
        go_wp2
        go_roundw
        case rel => exact ⟨5, by decide, by rfl, by first | (simp; done) | (simp; omega), by simpa using Hst.out, hB.setCell (Nat.le_refl _) _⟩
        case measure => simp [intOf]
      · have hf := ho.frozenAt 2
        have hc := ho.cellAt 2 (by decide)
        simp only [Oct.back, by8, List.replicate, List.map_cons, List.map_append, List.cons_append, List.getElem?_cons_zero, List.getElem?_cons_succ, Nat.reduceSub] at hc
        have hst := (ho.stored 2 (.int .u8 (n / 256 ^ 5 % 256))).1
        rw [show (2 : Nat) = 8 - 1 - 5 from rfl, Oct.back_set 8 5 n _ (by decide) rfl] at hst
        have Hst := Lib.hid hst
        clear hst
        go_wp2
        go_roundw
        case rel => exact ⟨6, by decide, by rfl, by first | (simp; done) | (simp; omega), by simpa using Hst.out, hB.setCell (Nat.le_refl _) _⟩
        case measure => simp [intOf]
      · have hf := ho.frozenAt 1
        have hc := ho.cellAt 1 (by decide)
        simp only [Oct.back, by8, List.replicate, List.map_cons, List.map_append, List.cons_append, List.getElem?_cons_zero, List.getElem?_cons_succ, Nat.reduceSub] at hc
        have hst := (ho.stored 1 (.int .u8 (n / 256 ^ 6 % 256))).1
        rw [show (1 : Nat) = 8 - 1 - 6 from rfl, Oct.back_set 8 6 n _ (by decide) rfl] at hst
        have Hst := Lib.hid hst
        clear hst
        go_wp2
        go_roundw
        case rel => exact ⟨7, by decide, by rfl, by first | (simp; done) | (simp; omega), by simpa using Hst.out, hB.setCell (Nat.le_refl _) _⟩
        case measure => simp [intOf]
      · have hf := ho.frozenAt 0
        have hc := ho.cellAt 0 (by decide)
        simp only [Oct.back, by8, List.replicate, List.map_cons, List.map_append, List.cons_append, List.getElem?_cons_zero, List.getElem?_cons_succ, Nat.reduceSub] at hc
        have hst := (ho.stored 0 (.int .u8 (n / 256 ^ 7 % 256))).1
        rw [show (0 : Nat) = 8 - 1 - 7 from rfl, Oct.back_set 8 7 n _ (by decide) rfl] at hst
        have Hst := Lib.hid hst
        clear hst
        go_wp2
        go_roundw
        case rel => exact ⟨8, by decide, by rfl, by first | (simp; done) | (simp; omega), by simpa using Hst.out, hB.setCell (Nat.le_refl _) _⟩
        case measure => simp [intOf]
      · have hfit : Oct.fitsB 8 n = true := by simp [Oct.fitsB]; omega
        have hz2 : n / 256 ^ 8 = 0 := by simp; omega
        have hv : Oct.putB n 8 = Oct.beB 8 n := by unfold Oct.putB; rw [Hw.out, hfit]; rfl
        have he : Oct.putE n 8 = 0 := by unfold Oct.putE; rw [Hw.out, hfit]; rfl
        have Hv := Lib.hid hv
        have He := Lib.hid he
        clear hv he hfit
        go_wp2
        go_ret2
        exact RetBy.of Hv.out He.out (by rw [Oct.beB_len]; rw [Oct.back_all] at ho; exact ho) hB

/-- The reference's Put. -/
theorem putR_c (n wd : Int) (w : World) (h0 : 0 ≤ n) (h1 : n ≤ 18446744073709551615) :
    Calls Tryd.prog 55 #[.int .u64 n, .int .i64 wd] w (RetBy w.heap.size (Oct.putB n wd) (Oct.putE n wd) w) := by
  cases hw : Oct.okW wd with
  | false =>
    have hv : Oct.putB n wd = [] := by unfold Oct.putB; rw [hw]; rfl
    have he : Oct.putE n wd = 2 := by unfold Oct.putE; rw [hw]; rfl
    rw [hv, he]
    exact putR_bad_c n wd w hw
  | true => exact putR_ok_c n wd w h0 h1 hw
end Go.Proofs.YtjenohodgpmchaaDoor
