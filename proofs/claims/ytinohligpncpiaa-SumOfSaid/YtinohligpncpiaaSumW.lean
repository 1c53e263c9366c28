/-
  The rows of the chapter on sums: they hold.
-/
import Derived.Test.YtinohligpncpiaaSumG
import Derived.Lib.SlBytesConst
namespace Go.Proofs.Ytinohligpncpiaa
open Go.RowKit
set_option linter.unusedSimpArgs false
set_option linter.unusedVariables false

/-- A literal's bytes. -/
theorem sumLit (w : World) (l : List UInt8) (T : TypeId) (f : Nat × Nat) (k : Nat) (hk : k = w.heap.size) (hm : l.length ≤ maxLen) : Sl (w.alloc (.cells (by8 l).toArray T f)) 1 (.slice (some ⟨k, 0, none⟩) l.length l.length) l.length (by8 l) := by
  have := sl_lit w (by8 l) T f k hk (by rw [by8_len]; exact hm)
  rw [by8_len] at this
  exact this

set_option maxRecDepth 100000 in
set_option maxHeartbeats 4000000 in
theorem sumWorks_c (w : World) : Calls Try.prog 6 #[] w (Ret (.bool true) w) := by
  have E1 := Lib.hid (show ((Sum.sumN 1 ([[49, 50, 51, 52, 53, 54, 55, 56, 57]] : List (List UInt8)).flatten : Nat) : Int) = (36974 : Int) by decide +kernel)
  have E2 := Lib.hid (show ((Sum.sumN 2 ([[49, 50, 51, 52], [53, 54, 55, 56, 57]] : List (List UInt8)).flatten : Nat) : Int) = (3808858755 : Int) by decide +kernel)
  have E3 := Lib.hid (show Sum.openB 1 (Sum.sealB 1 [104, 105]) = true by decide +kernel)
  have E4 := Lib.hid (show Sum.cutB 1 (Sum.sealB 1 [104, 105]) = [104, 105] by decide +kernel)
  have E5 := Lib.hid (show Sum.openB 1 [104, 105] = false by decide +kernel)
  have E6 := Lib.hid (show Sum.openB 2 [97, 98, 99] = false by decide +kernel)
  have E7 := Lib.hid (show (Sum.sealB 1 [104, 105]).length = 4 by decide +kernel)
  have kc := fun (w : World) (C : Array Value) (n c : Nat) => Lib.run_convert_bytes_const (P := Try.prog) w 23 5 C n c Try.underlying23 Try.underlying5
  have kd : ∀ (w : World) (C : Array Value) (n c g : Nat), g = w.heap.size → (convert 23 23 (.slice (some ⟨g, 0, none⟩) n c)).run Try.prog (w.alloc (.cells C 5)) = .ok (.slice (some ⟨g, 0, none⟩) n c) (w.alloc (.cells C 5 (C.size, C.size + 1))) := fun w C n c g hg => by subst hg; exact kc w C n c
  go_enter Try.func6, Try.ntmps6
  go_wp2_with fail
  refine (sumOf_c 1 (by decide) [[49, 50, 51, 52, 53, 54, 55, 56, 57]] _ _ 1 1 _ (slB1 _ _ _ 9 (sumLit w [49, 50, 51, 52, 53, 54, 55, 56, 57] 5 (9, 10) _ rfl (by decide)) _ _ (by simp)) (by decide) (by simp)).mono ?_
  rw [E1.out]
  rintro e w1 ⟨rfl, hb⟩
  have hB := below_up ((below_alloc w (.cells (by8 [49, 50, 51, 52, 53, 54, 55, 56, 57]).toArray 5 (9, 10))).alloc (by simp) _) hb
  clear hb
  go_wp2_with fail
  refine (sumOf_c 2 (by decide) [[49, 50, 51, 52], [53, 54, 55, 56, 57]] _ _ 2 2 _ (slB2 _ _ _ _ _ 4 5 ((sumLit w1 [49, 50, 51, 52] 5 (4, 5) _ rfl (by decide)).up (below_alloc _ _)) (sumLit _ [53, 54, 55, 56, 57] 5 (5, 6) _ (by simp) (by decide)) _ _ (by simp)) (by decide) (by simp)).mono ?_
  rw [E2.out]
  rintro e w2 ⟨rfl, hb⟩
  have hB := below_up hB (below_up (((below_alloc w1 (.cells (by8 [49, 50, 51, 52]).toArray 5 (4, 5))).alloc (by simp) _).alloc (by simp; omega) _) hb)
  clear hb
  go_wp2_with fail
  refine (sumOf_bad 3 (.inr (by decide)) _ _ _ _).mono ?_
  rintro e w3 ⟨rfl, hb⟩
  have hB := below_up hB hb
  clear hb
  go_wp2_with fail
  refine (width_c 2 (by decide) _).mono ?_
  rw [show ((Sum.wd 2 : Nat) : Int) = 4 from rfl]
  rintro e w4 ⟨rfl, hb⟩
  have hB := below_up hB hb
  clear hb
  go_wp2_with fail
  refine (seal_c 1 (by decide) [104, 105] _ _ 2 _ (sumLit w4 [104, 105] 5 (2, 3) _ rfl (by decide)) (by decide)).mono ?_
  rw [E7.out]
  rintro e w5 ⟨v5, rfl, ho5, hb⟩
  have hB := below_up hB (below_new hb)
  have s5 := Sl.of_own ho5
  obtain ⟨a5, c5, rfl⟩ := own_slice ho5
  clear hb ho5
  go_wp2_with fail
  refine (open_all 1 (by decide) (Sum.sealB 1 [104, 105]) _ _ 4 _ s5 (by decide)).mono ?_
  rintro e w6 ⟨hb, h⟩
  rcases h with ⟨_, v6, rfl, s6, _⟩ | ⟨hno, _⟩
  case inr => rw [E3.out] at hno; cases hno
  rw [E4.out] at s6
  have hB := below_up hB hb
  obtain ⟨a6, c6, rfl⟩ := s6.len
  clear hb s5
  go_wp2_with fail
  refine (open_all 1 (by decide) [104, 105] _ _ 2 _ (sumLit w6 [104, 105] 5 (2, 3) _ rfl (by decide)) (by decide)).mono ?_
  rintro e w7 ⟨hb, h⟩
  rcases h with ⟨hno, _⟩ | ⟨_, rfl⟩
  case inl => rw [E5.out] at hno; cases hno
  have hb := below_new hb
  have s6 := s6.up hb
  have hB := below_up hB hb
  clear hb
  go_wp2_with fail
  refine (open_all 2 (by decide) [97, 98, 99] _ _ 3 _ (sumLit w7 [97, 98, 99] 5 (3, 4) _ rfl (by decide)) (by decide)).mono ?_
  rintro e w8 ⟨hb, h⟩
  rcases h with ⟨hno, _⟩ | ⟨_, rfl⟩
  case inl => rw [E6.out] at hno; cases hno
  have hb := below_new hb
  have s6 := s6.up hb
  have hB := below_up hB hb
  clear hb
  have hstr : (convert 23 9 (.slice a6 2 c6)).run Try.prog w8 = .ok (.string ⟨#[104, 105]⟩) w8 := run_str Try.underlying23 Try.underlying5 Try.underlying9 s6
  clear E1 E2 E3 E4 E5 E6 E7 kc kd s6
  go_wp2_with (go_at_call 10; refine (sumNum_c _ _).mono ?_; rintro e w9 ⟨rfl, rfl⟩)
  go_ret
  exact ⟨rfl, hB⟩
end Go.Proofs.Ytinohligpncpiaa
