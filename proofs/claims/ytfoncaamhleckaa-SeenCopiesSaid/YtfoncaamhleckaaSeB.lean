/-
  The contracts of none, full, New, Len, Has, and of CheckName at a sight's name.
-/
import Derived.Test.YtfoncaamhleckaaSeA
import Derived.Test.YtfoncaamhleckaaPtApp
namespace Go.Proofs.Ytfoncaamhleckaa
open Go.RowKit Go.Maps Trc Sn
set_option linter.unusedSimpArgs false
set_option linter.unusedVariables false

theorem seMap_nil (M : Nat) (w : World) : (binOp .eql 30 (.map (some M)) (.map none)).run Try.prog w = .ok (.bool false) w :=
  run_eql_map_nil (P := Try.prog) w 30 _ _ (some M) Try.underlying30
set_option maxRecDepth 100000 in
theorem seNone_c {T M : Nat} {most : Int} {E : List (Sg × Int)} (w : World) (h : Tab w T M most E) : Calls Try.prog 23 #[.pointer (some ⟨T, 0, none⟩)] w (Ret (.bool false) w) := by
  have hc := h.var.cell (i := 1) (v := .map (some M)) rfl
  have hm := seMap_nil M
  go_enter Try.func23, Try.ntmps23
  go_wp2
  go_ret
  exact ⟨rfl, Below.refl _ _⟩
set_option maxRecDepth 100000 in
theorem seNone_nil (w : World) : Calls Try.prog 23 #[.pointer none] w (Ret (.bool true) w) := by
  go_enter Try.func23, Try.ntmps23
  go_wp2
  go_ret
  exact ⟨rfl, Below.refl _ _⟩
set_option maxRecDepth 100000 in
theorem seNone_zero {T : Nat} (w : World) (h : RowAt w T #[.int .i64 0, .map none] 66) : Calls Try.prog 23 #[.pointer (some ⟨T, 0, none⟩)] w (Ret (.bool true) w) := by
  have hc := h.cell (i := 1) (v := .map none) rfl
  have hm := fun w => run_eql_map_nil (P := Try.prog) w 30 _ _ none Try.underlying30
  go_enter Try.func23, Try.ntmps23
  go_wp2
  go_ret
  exact ⟨rfl, Below.refl _ _⟩
theorem seFull_c (most n : Int) (w : World) : Calls Try.prog 28 #[.agg #[.int .i64 most], .int .i64 n] w (Ret (.bool (decide (n ≥ most))) w) := by
  go_enter Try.func28, Try.ntmps28
  go_wp2
  go_ret
  exact ⟨rfl, below_alloc _ _⟩
set_option maxRecDepth 100000 in
theorem seNew_yes (most : Int) (h0 : 0 ≤ most) (h1 : most ≤ 4096) (w : World) :
    Calls Try.prog 7 #[.int .i64 most] w fun en w' => ∃ T M, en = .returned (.tuple #[.pointer (some ⟨T, 0, none⟩), .int .i64 0]) ∧ Tab w' T M most [] ∧ w.heap.size ≤ T ∧ w.heap.size ≤ M ∧ Below w.heap.size w w' := by
  have h2 : ¬ most < 0 := by omega
  have h3 : ¬ most > 4096 := by omega
  have hmk := run_makeMap (P := Try.prog) 30 w
  go_enter Try.func7, Try.ntmps7
  go_wp2
  refine bodyPost_ret (v := .tuple #[.pointer (some ⟨w.heap.size + 1, 0, none⟩), .int .i64 0]) (by simp [results, Try.results7, go_sem]) rfl ?_
  have hR := RowAt.new (w.alloc (.map #[] 0)) #[.int .i64 most, .map (some w.heap.size)] 66
  rw [World.size_alloc] at hR
  refine ⟨w.heap.size + 1, rfl, w.heap.size, ⟨hR, (MapAt.new (P := Try.prog) (k := 38) w).heap (heap_alloc_old _ _ (by simp)), by omega, (fun p hp => by cases hp), by simp, ⟨h0, h1⟩⟩, by omega, Nat.le_refl _, (below_alloc w _).alloc (by simp) _⟩
set_option maxRecDepth 100000 in
theorem seNew_no (most : Int) (h : most < 0 ∨ 4096 < most) (w : World) :
    Calls Try.prog 7 #[.int .i64 most] w (Ret (.tuple #[.pointer none, .int .i64 2]) w) := by
  go_enter Try.func7, Try.ntmps7
  by_cases h0 : most < 0
  · go_wp2
    exact bodyPost_ret (v := .tuple #[.pointer none, .int .i64 2]) (by simp [results, Try.results7, go_sem]) rfl ⟨rfl, Below.refl _ _⟩
  · have h1 : most > 4096 := by omega
    go_wp2
    exact bodyPost_ret (v := .tuple #[.pointer none, .int .i64 2]) (by simp [results, Try.results7, go_sem]) rfl ⟨rfl, Below.refl _ _⟩
/-- The check of a sight's name. -/
def Sn.nmOk (s : Sg) : Bool := decide (¬ (s.n.node = 0 ∨ 4611686018427387903 < s.n.time))
theorem seCheck_c (s : Sg) (w : World) : Calls Try.prog 25 #[nmV s.n] w (Ret (.int .i64 (if nmOk s then 0 else 2)) w) := by
  obtain ⟨⟨a, b, c, d⟩, e, f⟩ := s
  obtain ⟨r, hr⟩ : ∃ r : Int, (if nmOk ⟨⟨a, b, c, d⟩, e, f⟩ then (0 : Int) else 2) = r := ⟨_, rfl⟩
  rw [hr]
  have HR := Lib.hid hr
  clear hr
  unfold nmOk at HR
  simp only at HR ⊢
  by_cases h1 : a = 0
  · obtain rfl : r = 2 := by rw [← HR.out]; simp [h1]
    clear HR
    subst h1
    go_enter Try.func25, Try.ntmps25
    go_wp2
    go_ret
    exact ⟨rfl, below_alloc _ _⟩
  · have h1' : (a == 0) = false := by simp [h1]
    by_cases h2 : 4611686018427387903 < c
    · obtain rfl : r = 2 := by rw [← HR.out]; simp [h1, h2]
      clear HR
      go_enter Try.func25, Try.ntmps25
      go_wp2
      go_ret
      exact ⟨rfl, below_alloc _ _⟩
    · obtain rfl : r = 0 := by rw [← HR.out]; simp [h1, h2]
      clear HR
      go_enter Try.func25, Try.ntmps25
      go_wp2
      go_ret
      exact ⟨rfl, below_alloc _ _⟩
end Go.Proofs.Ytfoncaamhleckaa
