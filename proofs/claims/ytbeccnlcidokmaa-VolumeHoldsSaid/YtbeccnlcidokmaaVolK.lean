/-
  The contract of Copy.
-/
import Derived.Test.YtbeccnlcidokmaaVolJ
import Derived.Shelf.SlMaps.Clone
namespace Go.Proofs.Ytbeccnlcidokmaa
open Go.RowKit Go.Maps Vol
set_option linter.unusedSimpArgs false
set_option linter.unusedVariables false

theorem vClone_c {M : Nat} {E : List (Ct × Int)} (w : World) (h : VMap w M E) :
    Calls Try.prog 24 #[.map (some M)] w fun en w' => en = .returned (.map (some w.heap.size)) ∧ VMap w' w.heap.size E ∧ Below w.heap.size w w' := by
  obtain ⟨es, clock, hb, he, hbn⟩ := h.ex
  have hm := fun w => run_eql_map_nil (P := Try.prog) w 45 _ _ (some M) Try.underlying45
  go_enter Try.func24, Try.ntmps24
  go_wp2
  rw [run_callFunc_extern Try.func33 (by kernel_rfl) (by kernel_rfl) (by kernel_rfl) (e := Extern.MapsClone.clone) (by kernel_rfl), run_maps_clone_sl w 45 hb]
  simp only [Result.andThen]
  rw [Oper.upon_value]
  go_wp2
  rw [run_typeAssert_map_sl _ 45 _ _ _ _ Try.underlying45]
  simp only [Result.andThen]
  rw [Oper.upon_value]
  go_wp2
  go_ret
  exact ⟨rfl, ⟨⟨es, clock, heap_alloc_new w _, he, hbn⟩, h.keys, h.one⟩, below_alloc _ _⟩

set_option maxRecDepth 100000 in
theorem vCopy_c {L M : Nat} {E : List (Ct × Int)} (w : World) (h : Led w L M E) :
    Calls Try.prog 11 #[.pointer (some ⟨L, 0, none⟩)] w fun en w' => ∃ L' M', en = .returned (.pointer (some ⟨L', 0, none⟩)) ∧ Led w' L' M' E ∧ w.heap.size ≤ L' ∧ w.heap.size ≤ M' ∧ Below w.heap.size w w' := by
  go_enter Try.func11, Try.ntmps11
  go_wp2_with (first
    | (go_at_call 22; refine (vNone_c _ h).mono ?_; rintro en w1 ⟨rfl, hb⟩; have h1 := h.below hb; have hc := h1.var.cell (i := 0) (v := .map (some M)) rfl)
    | (go_at_call 24; refine (vClone_c _ h1.map).mono ?_; rintro en w2 ⟨rfl, hm2, hb2⟩))
  go_ret
  refine ⟨w2.heap.size, w1.heap.size, by simp, ⟨RowAt.new w2 _ _, hm2.heap (heap_alloc_old _ _ hm2.lt), ?_⟩, ?_, hb.size, (below_up hb hb2).alloc ?_ _⟩
  · have := hm2.lt; omega
  · have := hb.size; have := hb2.size; omega
  · exact (below_up hb hb2).size
end Go.Proofs.Ytbeccnlcidokmaa
