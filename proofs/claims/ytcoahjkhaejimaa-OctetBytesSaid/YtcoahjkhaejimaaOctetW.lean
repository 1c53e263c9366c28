/-
  The chapter's rows (works): true.
-/
import Derived.Test.YtcoahjkhaejimaaOctetH
import Derived.Lib.SlBytesConst
import Derived.Lib.SmallJoins
namespace Go.Proofs.Ytcoahjkhaejimaa
open Go.RowKit
set_option linter.unusedSimpArgs false
set_option linter.unusedVariables false

/-- A literal's bytes. -/
theorem slLit (w : World) (l : List UInt8) (T : TypeId) (f : Nat × Nat) (k : Nat) (hk : k = w.heap.size) (hm : l.length ≤ maxLen) : Sl (w.alloc (.cells (by8 l).toArray T f)) 1 (.slice (some ⟨k, 0, none⟩) l.length l.length) l.length (by8 l) := by
  subst hk
  refine ⟨by rw [by8_len]; omega, .inr ⟨w.heap.size, 0, l.length, rfl, Nat.le_refl _, hm, fun j u hj => ?_⟩⟩
  have : (w.alloc (.cells (by8 l).toArray T f)).heap[w.heap.size]? = some (.cells (by8 l).toArray T f) := heap_alloc_new w _
  simp only [World.cell?, this, Nat.zero_add]
  simpa using hj

theorem slInts (w : World) (a b : Int) (T : TypeId) (k : Nat) (hk : k = w.heap.size) : Sl (w.alloc (.cells #[.int .i64 a, .int .i64 b] T)) 1 (.slice (some ⟨k, 0, none⟩) 2 2) 2 ([a, b].map (.int .i64)) := by
  subst hk
  exact Sl.of_own (World.ownsRow_lit w #[.int .i64 a, .int .i64 b] 2 (size := 1) (e := T) (Nat.le_refl _) (by decide) rfl)

theorem slB3 (w : World) (T U : TypeId) (k : Nat) (hk : k = w.heap.size) :
    SlB ((((w.alloc (.cells (by8 [97]).toArray T (1, 2))).alloc (.cells (by8 [98, 99]).toArray T (2, 3))).alloc (.cells (by8 [100]).toArray T (1, 2))).alloc
      (.cells #[.slice (some ⟨k, 0, none⟩) 1 1, .slice (some ⟨k + 1, 0, none⟩) 2 2, .slice (some ⟨k + 1 + 1, 0, none⟩) 1 1] U))
      (.slice (some ⟨k + 1 + 1 + 1, 0, none⟩) 3 3) 3 [.slice (some ⟨k, 0, none⟩) 1 1, .slice (some ⟨k + 1, 0, none⟩) 2 2, .slice (some ⟨k + 1 + 1, 0, none⟩) 1 1] [[97], [98, 99], [100]] := by
  subst hk
  refine ⟨?_, rfl, fun i u l h1 h2 => ?_⟩
  · have := Sl.of_own (World.ownsRow_lit (((w.alloc (.cells (by8 [97]).toArray T (1, 2))).alloc (.cells (by8 [98, 99]).toArray T (2, 3))).alloc (.cells (by8 [100]).toArray T (1, 2))) #[.slice (some ⟨w.heap.size, 0, none⟩) 1 1, .slice (some ⟨w.heap.size + 1, 0, none⟩) 2 2, .slice (some ⟨w.heap.size + 1 + 1, 0, none⟩) 1 1] 3 (size := 1) (e := U) (Nat.le_refl _) (by decide) rfl)
    simpa using this
  · match i with
    | 0 =>
      simp only [List.getElem?_cons_zero, Option.some.injEq] at h1 h2
      subst h1 h2
      exact (slLit w [97] T (1, 2) _ rfl (by decide)).up (((below_alloc _ _).alloc (by simp) _).alloc (by simp) _)
    | 1 =>
      simp only [List.getElem?_cons_succ, List.getElem?_cons_zero, Option.some.injEq] at h1 h2
      subst h1 h2
      exact (slLit (w.alloc (.cells (by8 [97]).toArray T (1, 2))) [98, 99] T (2, 3) _ (by simp) (by decide)).up ((below_alloc _ _).alloc (by simp) _)
    | 2 =>
      simp only [List.getElem?_cons_succ, List.getElem?_cons_zero, Option.some.injEq] at h1 h2
      subst h1 h2
      exact (slLit ((w.alloc (.cells (by8 [97]).toArray T (1, 2))).alloc (.cells (by8 [98, 99]).toArray T (2, 3))) [100] T (1, 2) _ (by simp) (by decide)).up (below_alloc _ _)
    | i + 3 => simp at h1

set_option maxHeartbeats 4000000 in
set_option maxRecDepth 100000 in
theorem works_c (w : World) : Calls Try.prog 13 #[] w (Ret (.bool true) w) := by
  have kc := fun (w : World) (C : Array Value) (n c : Nat) => Lib.run_convert_bytes_const (P := Try.prog) w 23 5 C n c Try.underlying23 Try.underlying5
  have kd : ∀ (w : World) (C : Array Value) (n c g : Nat), g = w.heap.size → (convert 23 23 (.slice (some ⟨g, 0, none⟩) n c)).run Try.prog (w.alloc (.cells C 5)) = .ok (.slice (some ⟨g, 0, none⟩) n c) (w.alloc (.cells C 5 (C.size, C.size + 1))) := fun w C n c g hg => by subst hg; exact kc w C n c
  go_enter Try.func13, Try.ntmps13
  go_wp2_with fail
  refine (put_c 258 2 w (by decide) (by decide)).mono ?_
  rw [show Oct.putB 258 2 = [1, 2] from by decide, show Oct.putE 258 2 = 0 from by decide]
  rintro e w1 ⟨v1, rfl, ho1, hB⟩
  have s1 : Sl w1 1 v1 2 (by8 [1, 2]) := Sl.of_own ho1
  obtain ⟨p1, c1, rfl⟩ := s1.len
  clear ho1
  go_wp2_with fail
  refine (put_c 256 1 _ (by decide) (by decide)).mono ?_
  rw [show Oct.putB 256 1 = [] from by decide, show Oct.putE 256 1 = 4 from by decide]
  rintro e w2 ⟨v2, rfl, _, hb⟩
  have s1 := s1.up hb
  have hB := below_up hB hb
  clear hb
  go_wp2_with fail
  refine (put_c 1 3 _ (by decide) (by decide)).mono ?_
  rw [show Oct.putB 1 3 = [] from by decide, show Oct.putE 1 3 = 2 from by decide]
  rintro e w3 ⟨v3, rfl, _, hb⟩
  have s1 := s1.up hb
  have hB := below_up hB hb
  clear hb
  go_wp2_with fail
  refine (get_c [1, 2] _ 2 _ (slLit _ [1, 2] _ (0, 0) _ rfl (by decide))).mono ?_
  rw [show Oct.getV [1, 2] = 258 from by decide, show Oct.getE [1, 2] = 0 from by decide]
  rintro e w4 ⟨rfl, hb⟩
  have hb := below_new hb
  have s1 := s1.up hb
  have hB := below_up hB hb
  clear hb
  go_wp2_with fail
  refine (split_c [97, 98, 99, 100] [1, 3] _ _ 4 2 _ ((slLit w4 [97, 98, 99, 100] 5 (4, 5) _ rfl (by decide)).up (below_alloc _ _)) (slInts _ 1 3 _ _ (by simp)) (by decide) (by decide)).mono ?_
  rintro e w5 ⟨hb, h⟩
  rcases h with ⟨_, v5, vs5, own5, rfl, hS⟩ | ⟨hno, _⟩
  case inr => exact absurd hno (by decide)
  have hS := hS.slB
  rw [show Oct.splitL [97, 98, 99, 100] [1, 3] = [[97], [98, 99], [100]] from by decide] at hS
  have hS : SlB w5 v5 3 vs5 [[97], [98, 99], [100]] := hS
  have hb := below_up ((below_alloc w4 (.cells (by8 [97, 98, 99, 100]).toArray 5 (4, 5))).alloc (by simp) _) hb
  have s1 := s1.up hb
  have hB := below_up hB hb
  clear hb
  go_wp2_with fail
  refine (split_c [97, 98] [2, 1] _ _ 2 2 _ ((slLit w5 [97, 98] 5 (2, 3) _ rfl (by decide)).up (below_alloc _ _)) (slInts _ 2 1 _ _ (by simp)) (by decide) (by decide)).mono ?_
  rintro e w6 ⟨hb, h⟩
  rcases h with ⟨hok, _⟩ | ⟨_, rfl⟩
  case inl => exact absurd hok (by decide)
  have hb := below_up ((below_alloc w5 (.cells (by8 [97, 98]).toArray 5 (2, 3))).alloc (by simp) _) hb
  have s1 := s1.up hb
  have hS := hS.up hb
  have hB := below_up hB hb
  clear hb
  have hstr : (convert 23 9 (.slice p1 2 c1)).run Try.prog w6 = .ok (.string ⟨#[1, 2]⟩) w6 := run_str Try.underlying23 Try.underlying5 Try.underlying9 s1
  obtain ⟨p5, c5, rfl⟩ := hS.out.len
  go_wp2_with (first
    | (go_at_call 10; refine (num_c _ _).mono ?_; rintro e w7 ⟨rfl, rfl⟩)
    | (go_at_call 11; refine (least_c 256 _ (by decide) (by decide)).mono ?_; rw [show Oct.leastF 256 = 2 from by decide]; rintro e w7 ⟨rfl, hb⟩; have hS := hS.up hb; have hB := below_up hB hb; clear hb))
  have hb3 : Below w7.heap.size w7 ((((w7.alloc (.cells (by8 [97]).toArray 5 (1, 2))).alloc (.cells (by8 [98, 99]).toArray 5 (2, 3))).alloc (.cells (by8 [100]).toArray 5 (1, 2))).alloc
      (.cells #[.slice (some ⟨w7.heap.size, 0, none⟩) 1 1, .slice (some ⟨w7.heap.size + 1, 0, none⟩) 2 2, .slice (some ⟨w7.heap.size + 1 + 1, 0, none⟩) 1 1] 23)) :=
    (((below_alloc _ _).alloc (by simp) _).alloc (by simp; omega) _).alloc (by simp; omega) _
  refine (same_c [[97], [98, 99], [100]] [[97], [98, 99], [100]] vs5 _ _ _ 3 3 _ (hS.up hb3) (slB3 w7 5 23 _ rfl) (by decide)).mono ?_
  rw [show decide ([[(97 : UInt8)], [98, 99], [100]] = [[97], [98, 99], [100]]) = true from by decide]
  rintro e w8 ⟨rfl, hb⟩
  have hB := below_up hB (below_up hb3 hb)
  clear hb hb3 hS
  go_wp2_with (go_at_call 10; refine (num_c _ _).mono ?_; rintro e w9 ⟨rfl, rfl⟩)
  refine (begins_c [97, 98, 99] [97, 98] _ _ 3 2 _ ((slLit w8 [97, 98, 99] 5 (3, 4) _ rfl (by decide)).up (below_alloc _ _)) (slLit (w8.alloc (.cells (by8 [97, 98, 99]).toArray 5 (3, 4))) [97, 98] 5 (2, 3) _ (by simp) (by decide)) (by decide)).mono ?_
  rw [show Oct.beginsB [97, 98, 99] [97, 98] = true from by decide]
  rintro e w10 ⟨rfl, hb⟩
  go_wp2
  go_ret
  exact ⟨rfl, below_up hB (below_up ((below_alloc w8 (.cells (by8 [97, 98, 99]).toArray 5 (3, 4))).alloc (by simp) _) hb)⟩
end Go.Proofs.Ytcoahjkhaejimaa
