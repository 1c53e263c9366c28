/-
  Contracts of volume's small functions, at a contact that may be: Check, right, of, least, none, booked, New, Len.
-/
import Derived.Test.YtbeccnlcidokmaaClockD
import Derived.Test.YtbeccnlcidokmaaMap
import Derived.Test.YtbeccnlcidokmaaPiO
import Derived.Test.YtbeccnlcidokmaaStore
import Derived.Carry
import Derived.LoopN
namespace Go.Proofs.Ytbeccnlcidokmaa
open Go.RowKit Go.Maps
set_option linter.unusedSimpArgs false
set_option linter.unusedVariables false

namespace Vol
structure Ct where
  from_ : Int
  to : Int
  a : Int
  b : Int
  r : Int
deriving DecidableEq
structure Ct.Ok (c : Ct) : Prop where
  f1 : 1 ≤ c.from_
  f2 : c.from_ ≤ 4294967295
  t1 : 1 ≤ c.to
  t2 : c.to ≤ 4294967295
  ne : ¬ c.from_ = c.to
  a0 : 0 ≤ c.a
  ab : c.a < c.b
  b2 : c.b ≤ 4611686018427387903
  r1 : 1 ≤ c.r
  r2 : c.r ≤ 4294967295
end Vol
open Vol
abbrev ctC (c : Ct) : List Value := [.int .u32 c.from_, .int .u32 c.to, .int .u64 c.a, .int .u64 c.b, .int .u64 c.r]
abbrev ctV (c : Ct) : Value := .agg (ctC c).toArray
abbrev keyC (c : Ct) : List Value := [.int .u32 c.from_, .int .u32 c.to, .int .u64 c.a]
abbrev keyV (c : Ct) : Value := .agg (keyC c).toArray
abbrev rowC (c : Ct) (n : Int) : List Value := [.int .u32 c.from_, .int .u32 c.to, .int .u64 c.a, .int .u64 c.b, .int .u64 c.r, .int .u64 n]
abbrev rowV (c : Ct) (n : Int) : Value := .agg (rowC c n).toArray

set_option maxRecDepth 100000 in
theorem ctCheck_c (c : Ct) (h : c.Ok) (w : World) : Calls Try.prog 34 #[ctV c] w (Ret (.int .i64 0) w) := by
  obtain ⟨f1, f2, t1, t2, ne, a0, ab, b2, r1, r2⟩ := h
  have hr : Clk.rightB c.a c.b = true := (Clk.rightB_iff _ _).2 ⟨by omega, b2⟩
  have e1 : (c.from_ == 0) = false := by rw [beq_eq_false_iff_ne]; omega
  have e2 : (c.to == 0) = false := by rw [beq_eq_false_iff_ne]; omega
  have e3 : (c.a == c.b) = false := by rw [beq_eq_false_iff_ne]; omega
  have e0 : (c.from_ == c.to) = false := by rw [beq_eq_false_iff_ne]; exact ne
  have e4 : ¬ c.r < 1 := by omega
  have e5 : ¬ (4294967295 : Int) < c.r := by omega
  have hB := below_alloc w (.cells (ctC c).toArray 32)
  go_enter Try.func34, Try.ntmps34
  go_wp2_with (go_at_call 35; refine (right_c _ _ _).mono ?_; rw [hr]; rintro en w1 ⟨rfl, hb⟩; have g := fun (j : Nat) (u : Value) (h : (w.alloc (.cells (ctC c).toArray 32)).cell? ⟨w.heap.size, j, none⟩ = some u) => cell_up hb h; have g2 := g 2 (.int .u64 c.a) (by simp [go_sem]); have g3 := g 3 (.int .u64 c.b) (by simp [go_sem]); have g4 := g 4 (.int .u64 c.r) (by simp [go_sem]); clear g)
  all_goals
    go_ret
    exact ⟨rfl, below_up hB hb⟩

set_option maxRecDepth 100000 in
theorem ctRight_c (c : Ct) (h : c.Ok) (w : World) : Calls Try.prog 27 #[ctV c] w (Ret (.bool true) w) := by
  have hB := below_alloc w (.cells (ctC c).toArray 32)
  go_enter Try.func27, Try.ntmps27
  go_wp2_with (go_at_call 34; refine (ctCheck_c c h _).mono ?_; rintro en w1 ⟨rfl, hb⟩)
  go_ret
  exact ⟨rfl, below_up hB hb⟩

set_option maxRecDepth 100000 in
theorem ctOf_c (c : Ct) (w : World) : Calls Try.prog 20 #[ctV c] w (Ret (keyV c) w) := by
  go_enter Try.func20, Try.ntmps20
  go_wp2
  exact bodyPost_ret (v := keyV c) (by simp [results, Try.results20, go_sem]) rfl ⟨rfl, (below_alloc _ _).alloc (by simp) _⟩

theorem slU2 (w : World) (k : Nat) (hk : k = w.heap.size) (T : TypeId) (x y : Int) : Sl (w.alloc (.cells #[.int .u64 x, .int .u64 y] T)) 1 (.slice (some ⟨k, 0, none⟩) 2 2) 2 [.int .u64 x, .int .u64 y] := by
  subst hk
  refine ⟨by simp, .inr ⟨w.heap.size, 0, 2, rfl, by decide, by decide, fun j u hj => ?_⟩⟩
  have : (w.alloc (.cells #[.int .u64 x, .int .u64 y] T)).heap[w.heap.size]? = some (.cells #[.int .u64 x, .int .u64 y] T) := heap_alloc_new w _
  simp only [World.cell?, this, Nat.zero_add]
  simpa using hj

/-- The least of two. -/
def Vol.least2 (x y : Int) : Int := if y < x then y else x
set_option maxRecDepth 100000 in
theorem least_c (x y : Int) (v : Value) (w : World) (hv : Sl w 1 v 2 [.int .u64 x, .int .u64 y]) : Calls Try.prog 29 #[v] w (Ret (.int .u64 (least2 x y)) w) := by
  obtain ⟨a, c, rfl⟩ := hv.len
  obtain ⟨b, off, rfl, h0⟩ := hv.cellAt (k := 0) (by decide) (by decide)
  obtain ⟨b', off', e, h1⟩ := hv.cellAt (k := 1) (by decide) (by decide)
  obtain ⟨rfl, rfl⟩ : b' = b ∧ off' = off := by simpa using e.symm
  simp only [List.getElem?_cons_zero, List.getElem?_cons_succ, Nat.add_zero] at h0 h1
  have hq : Calls Try.prog 37 #[.slice (some ⟨b', off', none⟩) 2 c] w (Ret (.int .u64 (least2 x y)) w) := by
    unfold least2
    by_cases hxy : y < x
    · have hxy2 : ¬ x ≤ y := by omega
      have hxy3 : ¬ x < y := by omega
      rw [if_pos hxy]
      go_enter Try.func37, Try.ntmps37
      go_wp2
      refine wp_loop_rounds 2 ?_
      rw [rounds_succ]
      go_wp2
      rw [rounds_succ]
      go_wp2
      go_ret
      exact ⟨rfl, Below.refl _ _⟩
    · have hxy2 : x ≤ y := by omega
      rw [if_neg hxy]
      go_enter Try.func37, Try.ntmps37
      go_wp2
      refine wp_loop_rounds 2 ?_
      rw [rounds_succ]
      go_wp2
      rw [rounds_succ]
      go_wp2
      go_ret
      exact ⟨rfl, Below.refl _ _⟩
  go_enter Try.func29, Try.ntmps29
  go_wp2_with (go_at_call 37; refine hq.mono ?_; rintro en w1 ⟨rfl, hb⟩)
  go_ret
  exact ⟨rfl, hb⟩
end Go.Proofs.Ytbeccnlcidokmaa
