/-
  Names as keys of a map.
-/
import Derived.Test.YtpfgepgjpnekdaaDoorTraceG
import Derived.Test.YtpfgepgjpnekdaaDoorMap
namespace Go.Proofs.YtpfgepgjpnekdaaDoor
open Go.RowKit Go.Maps Trc
set_option linter.unusedSimpArgs false
set_option linter.unusedVariables false

theorem laidOutT : laidOutB Tryd.prog = true := by kernel_rfl
theorem nameKeyed : Keyed Tryd.prog 31 :=
  Keyed.of_law (deep_law_laid laidOutT (m := 4) (by omega) (of_decide_eq_true (by kernel_rfl)) (by kernel_rfl) (by rw [Tryd.underlying31]))

def Trc.Nm.wf (x : Nm) : Prop := (Lit.int .u32 x.node).wf = true ∧ (Lit.int .u32 x.service).wf = true ∧ (Lit.int .u64 x.time).wf = true ∧ (Lit.int .u32 x.seq).wf = true

theorem nm_key (x : Nm) (h : x.wf) : ∃ l, keyOf Tryd.prog 31 (nmV x) = some l := by
  obtain ⟨h1, h2, h3, h4⟩ := h
  unfold keyOf
  rw [Tryd.underlying31]
  have hk : Tryd.prog.keyType 31 = true := by kernel_rfl
  have hf : (nmV x).formed Tryd.prog 31 = true := by
    unfold Value.formed
    rw [Tryd.underlying31]
    have hc : Tryd.prog.cellsOf 31 = 4 := by kernel_rfl
    rw [hc]
    rfl
  rw [hk, hf]
  simp only [Bool.and_true, if_true]
  obtain ⟨d, hd⟩ : ∃ d, Tryd.prog.types.size + 1 = d + 3 := ⟨Tryd.prog.types.size - 2, by have : 2 ≤ Tryd.prog.types.size := of_decide_eq_true (by kernel_rfl); omega⟩
  rw [hd]
  have c0 : Tryd.prog.cellsOf 31 = 4 := by kernel_rfl
  have c1 : Tryd.prog.cellsOf 25 = 2 := by kernel_rfl
  have c2 : Tryd.prog.cellsOf 29 = 1 := by kernel_rfl
  have c3 : Tryd.prog.cellsOf 23 = 1 := by kernel_rfl
  have hkl : Tryd.prog.keyLits (d + 3) 31 (nmV x).cells.toList = some [.int .u32 x.node, .int .u32 x.service, .int .u64 x.time, .int .u32 x.seq] := by
    simp [Program.keyLits, Value.cells, Tryd.underlying31, Tryd.underlying25, Tryd.underlying29, Tryd.underlying23, c0, c1, c2, c3, h1, h2, h3, h4]
    rw [if_pos (by decide)]
    rfl
  rw [hkl]
  exact ⟨_, rfl⟩
end Go.Proofs.YtpfgepgjpnekdaaDoor
