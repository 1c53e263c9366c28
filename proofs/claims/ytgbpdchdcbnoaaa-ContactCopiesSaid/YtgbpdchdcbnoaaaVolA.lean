/-
  Contracts of volume's small functions, at a contact that may be: Check, right, of, least, none, booked, New, Len.
-/
import Derived.Test.YtgbpdchdcbnoaaaClockD
import Derived.Test.YtgbpdchdcbnoaaaMap
import Derived.Test.YtgbpdchdcbnoaaaPiO
import Derived.Test.YtgbpdchdcbnoaaaStore
import Derived.Carry
import Derived.LoopN
namespace Go.Proofs.Ytgbpdchdcbnoaaa
open Go.RowKit Go.Maps
set_option linter.unusedSimpArgs false
set_option linter.unusedVariables false

namespace Vol
structure Ct where
  from_ : Int
  to : Int
  a : Int
  b : Int
  r : Int
deriving DecidableEq
structure Ct.Ok (c : Ct) : Prop where
  f1 : 1 ≤ c.from_
  f2 : c.from_ ≤ 4294967295
  t1 : 1 ≤ c.to
  t2 : c.to ≤ 4294967295
  ne : ¬ c.from_ = c.to
  a0 : 0 ≤ c.a
  ab : c.a < c.b
  b2 : c.b ≤ 4611686018427387903
  r1 : 1 ≤ c.r
  r2 : c.r ≤ 4294967295
end Vol
open Vol
abbrev ctC (c : Ct) : List Value := [.int .u32 c.from_, .int .u32 c.to, .int .u64 c.a, .int .u64 c.b, .int .u64 c.r]
abbrev ctV (c : Ct) : Value := .agg (ctC c).toArray
abbrev keyC (c : Ct) : List Value := [.int .u32 c.from_, .int .u32 c.to, .int .u64 c.a]
abbrev keyV (c : Ct) : Value := .agg (keyC c).toArray
abbrev rowC (c : Ct) (n : Int) : List Value := [.int .u32 c.from_, .int .u32 c.to, .int .u64 c.a, .int .u64 c.b, .int .u64 c.r, .int .u64 n]
abbrev rowV (c : Ct) (n : Int) : Value := .agg (rowC c n).toArray

set_option maxRecDepth 100000 in
theorem ctCheck_c (c : Ct) (h : c.Ok) (w : World) : Calls Try.prog 8 #[ctV c] w (Ret (.int .i64 0) w) := by
  obtain ⟨f1, f2, t1, t2, ne, a0, ab, b2, r1, r2⟩ := h
  have hr : Clk.rightB c.a c.b = true := (Clk.rightB_iff _ _).2 ⟨by omega, b2⟩
  have e1 : (c.from_ == 0) = false := by rw [beq_eq_false_iff_ne]; omega
  have e2 : (c.to == 0) = false := by rw [beq_eq_false_iff_ne]; omega
  have e3 : (c.a == c.b) = false := by rw [beq_eq_false_iff_ne]; omega
  have e0 : (c.from_ == c.to) = false := by rw [beq_eq_false_iff_ne]; exact ne
  have e4 : ¬ c.r < 1 := by omega
  have e5 : ¬ (4294967295 : Int) < c.r := by omega
  have hB := below_alloc w (.cells (ctC c).toArray 27)
  go_enter Try.func8, Try.ntmps8
  go_wp2_with (go_at_call 25; refine (right_c _ _ _).mono ?_; rw [hr]; rintro en w1 ⟨rfl, hb⟩; have g := fun (j : Nat) (u : Value) (h : (w.alloc (.cells (ctC c).toArray 27)).cell? ⟨w.heap.size, j, none⟩ = some u) => cell_up hb h; have g2 := g 2 (.int .u64 c.a) (by simp [go_sem]); have g3 := g 3 (.int .u64 c.b) (by simp [go_sem]); have g4 := g 4 (.int .u64 c.r) (by simp [go_sem]); clear g)
  all_goals
    go_ret
    exact ⟨rfl, below_up hB hb⟩

theorem slU2 (w : World) (k : Nat) (hk : k = w.heap.size) (T : TypeId) (x y : Int) : Sl (w.alloc (.cells #[.int .u64 x, .int .u64 y] T)) 1 (.slice (some ⟨k, 0, none⟩) 2 2) 2 [.int .u64 x, .int .u64 y] := by
  subst hk
  refine ⟨by simp, .inr ⟨w.heap.size, 0, 2, rfl, by decide, by decide, fun j u hj => ?_⟩⟩
  have : (w.alloc (.cells #[.int .u64 x, .int .u64 y] T)).heap[w.heap.size]? = some (.cells #[.int .u64 x, .int .u64 y] T) := heap_alloc_new w _
  simp only [World.cell?, this, Nat.zero_add]
  simpa using hj

/-- The least of two. -/
def Vol.least2 (x y : Int) : Int := if y < x then y else x
end Go.Proofs.Ytgbpdchdcbnoaaa
