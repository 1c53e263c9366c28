/-
  The contract of the law's full.
-/
import Derived.Test.YtekpjbablcoahaaDiskE
namespace Go.Proofs.Ytekpjbablcoahaa
open Go.RowKit Dk
set_option linter.unusedSimpArgs false
set_option linter.unusedVariables false

/-- A sector of one letter. -/
def Dk.fullS (c : UInt8) : Sec := ⟨List.replicate 64 c, by simp⟩
def Dk.fullL (c : UInt8) (k : Nat) : List UInt8 := List.replicate k c ++ List.replicate (64 - k) 0
theorem Dk.fullL_set (c : UInt8) (k : Nat) (hk : k < 64) : (by8 (fullL c k)).set k (.int .u8 (c.toNat : Int)) = by8 (fullL c (k + 1)) := by
  unfold by8
  rw [show (Value.int .u8 (c.toNat : Int)) = (fun x : UInt8 => Value.int .u8 (x.toNat : Int)) c from rfl, ← List.map_set]
  congr 1
  unfold fullL
  refine List.ext_getElem? fun i => ?_
  rw [List.getElem?_set]
  simp only [List.length_append, List.length_replicate]
  rcases Nat.lt_trichotomy i k with h | h | h
  · rw [if_neg (by omega), List.getElem?_append_left (by simp; omega), List.getElem?_append_left (by simp; omega), List.getElem?_replicate, List.getElem?_replicate, if_pos h, if_pos (by omega)]
  · subst h
    rw [if_pos rfl, if_pos (by omega), List.getElem?_append_left (by simp), List.getElem?_replicate, if_pos (by omega)]
  · rw [if_neg (by omega), List.getElem?_append_right (by simp; omega), List.getElem?_append_right (by simp; omega), List.getElem?_replicate, List.getElem?_replicate]
    simp only [List.length_replicate]
    by_cases h2 : i < 64
    · rw [if_pos (by omega), if_pos (by omega)]
    · rw [if_neg (by omega), if_neg (by omega)]
/-- 64 bytes of nought. -/
def Dk.noughts : List UInt8 := List.replicate 64 0
theorem make64 (w : World) : (Instr.makeSlice 33 (.int .i64 64) (.int .i64 64)).run Try.prog w = .ok (.slice (some ⟨w.heap.size, 0, none⟩) 64 64) (w.alloc (.cells (by8 noughts).toArray 5)) := by kernel_rfl
theorem full_nought (c : UInt8) : fullL c 0 = noughts := by simp [fullL, noughts]
set_option maxHeartbeats 2000000 in
set_option maxRecDepth 100000 in
theorem dFull_c (c : UInt8) (w : World) : Calls Try.prog 10 #[.int .u8 (c.toNat : Int)] w fun en w' => en = .returned (.slice (some ⟨w.heap.size, 0, none⟩) 64 64) ∧ RowAt w' w.heap.size (secC (fullS c)).toArray 5 ∧ Below w.heap.size w w' := by
  have hmk := make64
  have R0 := RowAt.new w (by8 noughts).toArray 5
  rw [← full_nought c] at R0 hmk
  have hB0 := below_alloc w (.cells (by8 (fullL c 0)).toArray 5)
  go_enter Try.func10, Try.ntmps10
  go_wp2
  go_loopw [4] (fun i wr => ∃ k : Nat, k ≤ 64 ∧ i = .int .i64 k ∧ RowAt wr w.heap.size (by8 (fullL c k)).toArray 5 ∧ Below w.heap.size w wr) (fun i _ => 64 - (intOf i).toNat)
  case atStart => exact ⟨0, by omega, rfl, R0, hB0⟩
  case round =>
    obtain ⟨k, hk, rfl, R, hB⟩ := hrel
    have HB := Lib.hid hB
    have hlen : (by8 (fullL c k)).length = 64 := by rw [by8_len]; simp [fullL]; omega
    by_cases hlt : k < 64
    · obtain ⟨x, hx⟩ : ∃ x, (by8 (fullL c k)).toArray[k]? = some x := ⟨(by8 (fullL c k))[k]'(by omega), by simp⟩
      have hc := R.cell hx
      have hf := R.fz k
      have hR := Lib.hid (R.set k (.int .u8 (c.toNat : Int)))
      have hbs : But (· = w.heap.size) wr (wr.setCell ⟨w.heap.size, k, none⟩ (.int .u8 (c.toNat : Int))) := But.setCell _ _ _ (.inl rfl)
      have hki : (k : Int) < 64 := by omega
      clear hB
      go_wp2
      go_roundw
      case rel => exact ⟨k + 1, by omega, by go_num, by have := hR.out; rw [List.setIfInBounds_toArray, fullL_set c k hlt] at this; exact this, HB.out.trans (hbs.below (fun q e => by omega) HB.out.size)⟩
      case measure => simp [intOf]; omega
    · obtain rfl : k = 64 := by omega
      go_wp2
      go_ret
      exact ⟨rfl, R, HB.out⟩
set_option maxRecDepth 100000 in
theorem dWaits_c {B M : Nat} {u : Value} {d : Disk} (w : World) (h : DiskAt w B M u d) : Calls Try.prog 23 #[.pointer (some ⟨B, 0, none⟩)] w fun en w' => en = .returned (.func (.func 49) #[] #[.pointer (some ⟨w.heap.size, 0, none⟩)]) ∧ RowAt w' w.heap.size #[u] 68 ∧ Below w.heap.size w w' := by
  have hmf : ∀ (fn : Fn) (first cap : Array Value) (w : World), (Instr.makeFunc fn first cap).run Try.prog w = .ok (.func fn first cap) w := fun _ _ _ _ => rfl
  have hBl := h.var.lt
  have hB1 := below_alloc w (.cells #[.slice none 0 0] 68)
  have V := h.below hB1
  have hc := V.var.cell (i := 3) (v := u) rfl
  obtain ⟨a, c, rfl⟩ := h.sl.len
  go_enter Try.func23, Try.ntmps23
  go_wp2_with (go_at_call 35; refine (dNone_c _ V).mono ?_; rintro en w1 ⟨rfl, rfl⟩)
  go_ret
  exact ⟨rfl, RowAt.new w _ _, below_alloc w _⟩
end Go.Proofs.Ytekpjbablcoahaa
