/-
  Names as keys of a map.
-/
import Derived.Test.YthlgoclidgfejaaTraceG
import Derived.Test.YthlgoclidgfejaaMap
namespace Go.Proofs.Ythlgoclidgfejaa
open Go.RowKit Go.Maps Trc
set_option linter.unusedSimpArgs false
set_option linter.unusedVariables false

theorem laidOutT : laidOutB Try.prog = true := by kernel_rfl
theorem nameKeyed : Keyed Try.prog 39 :=
  Keyed.of_law (deep_law_laid laidOutT (m := 4) (by omega) (of_decide_eq_true (by kernel_rfl)) (by kernel_rfl) (by rw [Try.underlying39]))

def Trc.Nm.wf (x : Nm) : Prop := (Lit.int .u32 x.node).wf = true ∧ (Lit.int .u32 x.service).wf = true ∧ (Lit.int .u64 x.time).wf = true ∧ (Lit.int .u32 x.seq).wf = true

theorem nm_key (x : Nm) (h : x.wf) : ∃ l, keyOf Try.prog 39 (nmV x) = some l := by
  obtain ⟨h1, h2, h3, h4⟩ := h
  unfold keyOf
  rw [Try.underlying39]
  have hk : Try.prog.keyType 39 = true := by kernel_rfl
  have hf : (nmV x).formed Try.prog 39 = true := by
    unfold Value.formed
    rw [Try.underlying39]
    have hc : Try.prog.cellsOf 39 = 4 := by kernel_rfl
    rw [hc]
    rfl
  rw [hk, hf]
  simp only [Bool.and_true, if_true]
  obtain ⟨d, hd⟩ : ∃ d, Try.prog.types.size + 1 = d + 3 := ⟨Try.prog.types.size - 2, by have : 2 ≤ Try.prog.types.size := of_decide_eq_true (by kernel_rfl); omega⟩
  rw [hd]
  have c0 : Try.prog.cellsOf 39 = 4 := by kernel_rfl
  have c1 : Try.prog.cellsOf 36 = 2 := by kernel_rfl
  have c2 : Try.prog.cellsOf 37 = 1 := by kernel_rfl
  have c3 : Try.prog.cellsOf 34 = 1 := by kernel_rfl
  have hkl : Try.prog.keyLits (d + 3) 39 (nmV x).cells.toList = some [.int .u32 x.node, .int .u32 x.service, .int .u64 x.time, .int .u32 x.seq] := by
    simp [Program.keyLits, Value.cells, Try.underlying39, Try.underlying36, Try.underlying37, Try.underlying34, c0, c1, c2, c3, h1, h2, h3, h4]
    rw [if_pos (by decide)]
    rfl
  rw [hkl]
  exact ⟨_, rfl⟩
end Go.Proofs.Ythlgoclidgfejaa
