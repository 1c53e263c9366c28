/-
  The contracts of Has, Len, maps.Clone, Copy, maps.Equal, Same.
-/
import Derived.Test.YtfoncaamhleckaaSeD
import Derived.Shelf.SlMaps.Clone
namespace Go.Proofs.Ytfoncaamhleckaa
open Go.RowKit Go.Maps Trc Sn
set_option linter.unusedSimpArgs false
set_option linter.unusedVariables false

set_option maxRecDepth 100000 in
theorem seHas_c {T M : Nat} {most : Int} {E : List (Sg × Int)} (s : Sg) (hs : s.wf) (w : World) (h : Tab w T M most E) :
    Calls Try.prog 12 #[.pointer (some ⟨T, 0, none⟩), sgV s] w (Ret (.tuple #[.int .u64 (lk E s), .bool (hasB E s)]) w) := by
  have hb0 := below_alloc w (.cells (sgC s).toArray 38)
  have A0 := RowAt.new w (sgC s).toArray 38
  have h0 := h.below hb0
  go_enter Try.func12, Try.ntmps12
  go_wp2_with (go_at_call 23; refine (seNone_c _ h0).mono ?_; rintro en w1 ⟨rfl, hb1⟩)
  have hbA := below_up hb0 hb1
  refine wp_region_pt (fun _ => False) (.q 0 (.q 1 (.q 2 (.q 3 (.q 4 (.q 5 (.q 6 (.q 7 (.q 8 (.q 9 (.q 10 .done))))))))))) (by kernel_rfl) (by kernel_rfl) (by kernel_rfl) (by decide) (fun _ _ d _ _ h => by cases d <;> exact h) (fun Wd hBd => ?_)
  try simp only [Act.put, List.getElem_toArray, List.getElem_cons_zero, List.getElem_cons_succ, List.setIfInBounds_toArray, List.set_cons_zero, List.set_cons_succ]
  have hbD := below_up hbA hBd
  have h1 := h.below hbD
  have hA1 := A0.below (below_up hb1 hBd)
  have fM := h1.var.cell (i := 1) (v := .map (some M)) rfl
  refine pt_q (v := ?_) rfl (by rfl) ?_ ?_
  rotate_left
  · intro w' hBw'
    first | (go_simp; done) | (go_simp; with_reducible rfl)
  try simp only [Act.put, List.getElem_toArray, List.getElem_cons_zero, List.getElem_cons_succ, List.setIfInBounds_toArray, List.set_cons_zero, List.set_cons_succ]
  refine pt_q (v := ?_) rfl (by rfl) ?_ ?_
  rotate_left
  · intro w' hBw'
    first | (go_simp; done) | (go_simp; with_reducible rfl)
  try simp only [Act.put, List.getElem_toArray, List.getElem_cons_zero, List.getElem_cons_succ, List.setIfInBounds_toArray, List.set_cons_zero, List.set_cons_succ]
  refine pt_q (v := ?_) rfl (by rfl) ?_ ?_
  rotate_left
  · intro w' hBw'
    first | (go_simp; done) | (go_simp; with_reducible rfl)
  try simp only [Act.put, List.getElem_toArray, List.getElem_cons_zero, List.getElem_cons_succ, List.setIfInBounds_toArray, List.set_cons_zero, List.set_cons_succ]
  refine pt_q (v := ?_) rfl (by rfl) ?_ ?_
  rotate_left
  · intro w' hBw'
    have qL := hBw'.cell fM (fun e => e)
    first | (go_simp; done) | (go_simp; with_reducible rfl)
  try simp only [Act.put, List.getElem_toArray, List.getElem_cons_zero, List.getElem_cons_succ, List.setIfInBounds_toArray, List.set_cons_zero, List.set_cons_succ]
  refine pt_load rfl (by rfl) 38 (.tmp 3) rfl w.heap.size 0 rfl (sgC s) _ hA1.range (fun e => e) Try.underlying38 rfl (by kernel_rfl) ?_
  try simp only [Act.put, List.getElem_toArray, List.getElem_cons_zero, List.getElem_cons_succ, List.setIfInBounds_toArray, List.set_cons_zero, List.set_cons_succ]
  refine pt_look rfl (by rfl) 30 (.tmp 14) (.tmp 15) true rfl (mv := .map (some M)) (xv := sgV s) rfl rfl (fun w' hb => by have := slook (h1.map.heap (hb.same M h1.map.lt (fun e => e))) hs true; simpa using this) ?_
  try simp only [Act.put, List.getElem_toArray, List.getElem_cons_zero, List.getElem_cons_succ, List.setIfInBounds_toArray, List.set_cons_zero, List.set_cons_succ]
  refine pt_q (v := ?_) rfl (by rfl) ?_ ?_
  rotate_left
  · intro w' hBw'
    first | (go_simp; done) | (go_simp; with_reducible rfl)
  try simp only [Act.put, List.getElem_toArray, List.getElem_cons_zero, List.getElem_cons_succ, List.setIfInBounds_toArray, List.set_cons_zero, List.set_cons_succ]
  refine pt_q (v := ?_) rfl (by rfl) ?_ ?_
  rotate_left
  · intro w' hBw'
    first | (go_simp; done) | (go_simp; with_reducible rfl)
  try simp only [Act.put, List.getElem_toArray, List.getElem_cons_zero, List.getElem_cons_succ, List.setIfInBounds_toArray, List.set_cons_zero, List.set_cons_succ]
  refine pt_q (v := ?_) rfl (by rfl) ?_ ?_
  rotate_left
  · intro w' hBw'
    first | (go_simp; done) | (go_simp; with_reducible rfl)
  try simp only [Act.put, List.getElem_toArray, List.getElem_cons_zero, List.getElem_cons_succ, List.setIfInBounds_toArray, List.set_cons_zero, List.set_cons_succ]
  refine pt_q (v := ?_) rfl (by rfl) ?_ ?_
  rotate_left
  · intro w' hBw'
    first | (go_simp; done) | (go_simp; with_reducible rfl)
  try simp only [Act.put, List.getElem_toArray, List.getElem_cons_zero, List.getElem_cons_succ, List.setIfInBounds_toArray, List.set_cons_zero, List.set_cons_succ]
  refine pt_q (v := ?_) rfl (by rfl) ?_ ?_
  rotate_left
  · intro w' hBw'
    first | (go_simp; done) | (go_simp; with_reducible rfl)
  try simp only [Act.put, List.getElem_toArray, List.getElem_cons_zero, List.getElem_cons_succ, List.setIfInBounds_toArray, List.set_cons_zero, List.set_cons_succ]
  refine pt_done ?_
  go_wp2
  exact bodyPost_ret (v := .tuple #[.int .u64 (lk E s), .bool (hasB E s)]) (by simp [results, Try.results12, go_sem]) rfl ⟨rfl, hbD⟩
set_option maxRecDepth 100000 in
theorem seLen_c {T M : Nat} {most : Int} {E : List (Sg × Int)} (w : World) (h : Tab w T M most E) :
    Calls Try.prog 21 #[.pointer (some ⟨T, 0, none⟩)] w (Ret (.tuple #[.int .i64 E.length, .int .i64 most]) w) := by
  go_enter Try.func21, Try.ntmps21
  go_wp2_with (go_at_call 23; refine (seNone_c _ h).mono ?_; rintro en w1 ⟨rfl, hb1⟩)
  refine wp_region_pt (fun _ => False) (.q 0 (.q 1 (.q 2 (.q 3 (.q 4 (.q 5 (.q 6 (.q 7 (.q 8 (.q 9 (.q 10 (.q 11 .done)))))))))))) (by kernel_rfl) (by kernel_rfl) (by kernel_rfl) (by decide) (fun _ _ d _ _ h => by cases d <;> exact h) (fun Wd hBd => ?_)
  try simp only [Act.put, List.getElem_toArray, List.getElem_cons_zero, List.getElem_cons_succ, List.setIfInBounds_toArray, List.set_cons_zero, List.set_cons_succ]
  have hbD := below_up hb1 hBd
  have h1 := h.below hbD
  have fM := h1.var.cell (i := 1) (v := .map (some M)) rfl
  have fO := h1.var.cell (i := 0) (v := .int .i64 most) rfl
  refine pt_q (v := ?_) rfl (by rfl) ?_ ?_
  rotate_left
  · intro w' hBw'
    first | (go_simp; done) | (go_simp; with_reducible rfl)
  try simp only [Act.put, List.getElem_toArray, List.getElem_cons_zero, List.getElem_cons_succ, List.setIfInBounds_toArray, List.set_cons_zero, List.set_cons_succ]
  refine pt_q (v := ?_) rfl (by rfl) ?_ ?_
  rotate_left
  · intro w' hBw'
    first | (go_simp; done) | (go_simp; with_reducible rfl)
  try simp only [Act.put, List.getElem_toArray, List.getElem_cons_zero, List.getElem_cons_succ, List.setIfInBounds_toArray, List.set_cons_zero, List.set_cons_succ]
  refine pt_q (v := ?_) rfl (by rfl) ?_ ?_
  rotate_left
  · intro w' hBw'
    first | (go_simp; done) | (go_simp; with_reducible rfl)
  try simp only [Act.put, List.getElem_toArray, List.getElem_cons_zero, List.getElem_cons_succ, List.setIfInBounds_toArray, List.set_cons_zero, List.set_cons_succ]
  refine pt_q (v := ?_) rfl (by rfl) ?_ ?_
  rotate_left
  · intro w' hBw'
    have qL := hBw'.cell fM (fun e => e)
    first | (go_simp; done) | (go_simp; with_reducible rfl)
  try simp only [Act.put, List.getElem_toArray, List.getElem_cons_zero, List.getElem_cons_succ, List.setIfInBounds_toArray, List.set_cons_zero, List.set_cons_succ]
  refine pt_q (v := .int .i64 E.length) rfl (by rfl) (fun w' hBw' => by have ql := (h1.map.heap (hBw'.same M h1.map.lt (fun e => e))).len Try.underlying30 3; rw [List.length_map] at ql; first | (go_simp; done) | (go_simp; with_reducible rfl)) ?_
  try simp only [Act.put, List.getElem_toArray, List.getElem_cons_zero, List.getElem_cons_succ, List.setIfInBounds_toArray, List.set_cons_zero, List.set_cons_succ]
  refine pt_q (v := ?_) rfl (by rfl) ?_ ?_
  rotate_left
  · intro w' hBw'
    first | (go_simp; done) | (go_simp; with_reducible rfl)
  try simp only [Act.put, List.getElem_toArray, List.getElem_cons_zero, List.getElem_cons_succ, List.setIfInBounds_toArray, List.set_cons_zero, List.set_cons_succ]
  refine pt_q (v := ?_) rfl (by rfl) ?_ ?_
  rotate_left
  · intro w' hBw'
    first | (go_simp; done) | (go_simp; with_reducible rfl)
  try simp only [Act.put, List.getElem_toArray, List.getElem_cons_zero, List.getElem_cons_succ, List.setIfInBounds_toArray, List.set_cons_zero, List.set_cons_succ]
  refine pt_q (v := ?_) rfl (by rfl) ?_ ?_
  rotate_left
  · intro w' hBw'
    first | (go_simp; done) | (go_simp; with_reducible rfl)
  try simp only [Act.put, List.getElem_toArray, List.getElem_cons_zero, List.getElem_cons_succ, List.setIfInBounds_toArray, List.set_cons_zero, List.set_cons_succ]
  refine pt_q (v := ?_) rfl (by rfl) ?_ ?_
  rotate_left
  · intro w' hBw'
    first | (go_simp; done) | (go_simp; with_reducible rfl)
  try simp only [Act.put, List.getElem_toArray, List.getElem_cons_zero, List.getElem_cons_succ, List.setIfInBounds_toArray, List.set_cons_zero, List.set_cons_succ]
  refine pt_q (v := ?_) rfl (by rfl) ?_ ?_
  rotate_left
  · intro w' hBw'
    have qL := hBw'.cell fO (fun e => e)
    first | (go_simp; done) | (go_simp; with_reducible rfl)
  try simp only [Act.put, List.getElem_toArray, List.getElem_cons_zero, List.getElem_cons_succ, List.setIfInBounds_toArray, List.set_cons_zero, List.set_cons_succ]
  refine pt_q (v := ?_) rfl (by rfl) ?_ ?_
  rotate_left
  · intro w' hBw'
    first | (go_simp; done) | (go_simp; with_reducible rfl)
  try simp only [Act.put, List.getElem_toArray, List.getElem_cons_zero, List.getElem_cons_succ, List.setIfInBounds_toArray, List.set_cons_zero, List.set_cons_succ]
  refine pt_q (v := ?_) rfl (by rfl) ?_ ?_
  rotate_left
  · intro w' hBw'
    first | (go_simp; done) | (go_simp; with_reducible rfl)
  try simp only [Act.put, List.getElem_toArray, List.getElem_cons_zero, List.getElem_cons_succ, List.setIfInBounds_toArray, List.set_cons_zero, List.set_cons_succ]
  refine pt_done ?_
  go_wp2
  exact bodyPost_ret (v := .tuple #[.int .i64 E.length, .int .i64 most]) (by simp [results, Try.results21, go_sem]) rfl ⟨rfl, hbD⟩
set_option maxRecDepth 100000 in
theorem seClone_c {M : Nat} {E : List (Sg × Int)} (w : World) (h : SMap w M E) :
    Calls Try.prog 35 #[.map (some M)] w fun en w' => en = .returned (.map (some w.heap.size)) ∧ SMap w' w.heap.size E ∧ Below w.heap.size w w' := by
  obtain ⟨es, clock, hb, he, hbn⟩ := h.ex
  have hm := fun w => run_eql_map_nil (P := Try.prog) w 30 _ _ (some M) Try.underlying30
  go_enter Try.func35, Try.ntmps35
  go_wp2
  rw [run_callFunc_extern Try.func47 (by kernel_rfl) (by kernel_rfl) (by kernel_rfl) (e := Extern.MapsClone.clone) (by kernel_rfl), run_maps_clone_sl w 30 hb]
  simp only [Result.andThen]
  rw [Oper.upon_value]
  go_wp2
  rw [run_typeAssert_map_sl _ 30 _ _ _ _ Try.underlying30]
  simp only [Result.andThen]
  rw [Oper.upon_value]
  go_wp2
  go_ret
  exact ⟨rfl, ⟨⟨es, clock, heap_alloc_new w _, he, hbn⟩, h.keys, h.one⟩, below_alloc _ _⟩
/-- What Copy leaves. -/
def Sn.Cpd (w : World) (most : Int) (E : List (Sg × Int)) (en : Ending) (w' : World) : Prop :=
  ∃ T' M', en = .returned (.pointer (some ⟨T', 0, none⟩)) ∧ Tab w' T' M' most E ∧ w.heap.size ≤ T' ∧ w.heap.size ≤ M' ∧ Below w.heap.size w w'
set_option maxRecDepth 100000 in
theorem seCopy_c {T M : Nat} {most : Int} {E : List (Sg × Int)} (w : World) (h : Tab w T M most E) :
    Calls Try.prog 17 #[.pointer (some ⟨T, 0, none⟩)] w (Cpd w most E) := by
  go_enter Try.func17, Try.ntmps17
  go_wp2_with (go_at_call 23; refine (seNone_c _ h).mono ?_; rintro en w1 ⟨rfl, hb1⟩)
  refine wp_region_pt (fun _ => False) (.q 0 (.q 1 (.q 2 (.q 3 (.q 4 (.q 5 (.q 6 (.q 7 (.c 8 (.q 9 (.c 10 (.q 11 .done)))))))))))) (by kernel_rfl) (by kernel_rfl) (by kernel_rfl) (by decide) (fun _ _ d _ _ h => by cases d <;> exact h) (fun Wd hBd => ?_)
  try simp only [Act.put, List.getElem_toArray, List.getElem_cons_zero, List.getElem_cons_succ, List.setIfInBounds_toArray, List.set_cons_zero, List.set_cons_succ]
  have hbD := below_up hb1 hBd
  have h1 := h.below hbD
  have fM := h1.var.cell (i := 1) (v := .map (some M)) rfl
  have fB : Wd.rangeAt T 0 [.int .i64 most] := fun j v hj => by (match j, hj with | 0, hj => exact h1.var.cell (i := 0) hj | j + 1, hj => simp at hj)
  refine pt_q (v := ?_) rfl (by rfl) ?_ ?_
  rotate_left
  · intro w' hBw'
    first | (go_simp; done) | (go_simp; with_reducible rfl)
  try simp only [Act.put, List.getElem_toArray, List.getElem_cons_zero, List.getElem_cons_succ, List.setIfInBounds_toArray, List.set_cons_zero, List.set_cons_succ]
  refine pt_q (v := ?_) rfl (by rfl) ?_ ?_
  rotate_left
  · intro w' hBw'
    first | (go_simp; done) | (go_simp; with_reducible rfl)
  try simp only [Act.put, List.getElem_toArray, List.getElem_cons_zero, List.getElem_cons_succ, List.setIfInBounds_toArray, List.set_cons_zero, List.set_cons_succ]
  refine pt_q (v := ?_) rfl (by rfl) ?_ ?_
  rotate_left
  · intro w' hBw'
    first | (go_simp; done) | (go_simp; with_reducible rfl)
  try simp only [Act.put, List.getElem_toArray, List.getElem_cons_zero, List.getElem_cons_succ, List.setIfInBounds_toArray, List.set_cons_zero, List.set_cons_succ]
  refine pt_load rfl (by rfl) 64 (.tmp 7) rfl T 0 rfl [.int .i64 most] _ fB (fun e => e) Try.underlying64 rfl (by kernel_rfl) ?_
  try simp only [Act.put, List.getElem_toArray, List.getElem_cons_zero, List.getElem_cons_succ, List.setIfInBounds_toArray, List.set_cons_zero, List.set_cons_succ]
  refine pt_q (v := ?_) rfl (by rfl) ?_ ?_
  rotate_left
  · intro w' hBw'
    first | (go_simp; done) | (go_simp; with_reducible rfl)
  try simp only [Act.put, List.getElem_toArray, List.getElem_cons_zero, List.getElem_cons_succ, List.setIfInBounds_toArray, List.set_cons_zero, List.set_cons_succ]
  refine pt_q (v := ?_) rfl (by rfl) ?_ ?_
  rotate_left
  · intro w' hBw'
    first | (go_simp; done) | (go_simp; with_reducible rfl)
  try simp only [Act.put, List.getElem_toArray, List.getElem_cons_zero, List.getElem_cons_succ, List.setIfInBounds_toArray, List.set_cons_zero, List.set_cons_succ]
  refine pt_q (v := ?_) rfl (by rfl) ?_ ?_
  rotate_left
  · intro w' hBw'
    first | (go_simp; done) | (go_simp; with_reducible rfl)
  try simp only [Act.put, List.getElem_toArray, List.getElem_cons_zero, List.getElem_cons_succ, List.setIfInBounds_toArray, List.set_cons_zero, List.set_cons_succ]
  refine pt_q (v := ?_) rfl (by rfl) ?_ ?_
  rotate_left
  · intro w' hBw'
    have qL := hBw'.cell fM (fun e => e)
    first | (go_simp; done) | (go_simp; with_reducible rfl)
  try simp only [Act.put, List.getElem_toArray, List.getElem_cons_zero, List.getElem_cons_succ, List.setIfInBounds_toArray, List.set_cons_zero, List.set_cons_succ]
  refine pt_c ?_
  refine pt_step rfl (by rfl) (fun K hK => ?_)
  go_simp
  refine (seClone_c _ h1.map).mono ?_
  rintro en w4 ⟨rfl, hm4, hb4⟩
  go_wp2_with fail
  refine hK.out _ _ (But.of_below hb4) ?_
  clear hK K
  try simp only [Act.put, List.getElem_toArray, List.getElem_cons_zero, List.getElem_cons_succ, List.setIfInBounds_toArray, List.set_cons_zero, List.set_cons_succ]
  refine pt_q (v := ?_) rfl (by rfl) ?_ ?_
  rotate_left
  · intro w' hBw'
    first | (go_simp; done) | (go_simp; with_reducible rfl)
  try simp only [Act.put, List.getElem_toArray, List.getElem_cons_zero, List.getElem_cons_succ, List.setIfInBounds_toArray, List.set_cons_zero, List.set_cons_succ]
  refine pt_c ?_
  refine pt_step rfl (by rfl) (fun K hK => ?_)
  go_simp
  have hb5 := below_alloc w4 (.cells #[.int .i64 most, .map (some Wd.heap.size)] 66)
  have hR5 := RowAt.new w4 #[.int .i64 most, .map (some Wd.heap.size)] 66
  go_wp2_with fail
  refine hK.out _ _ (But.of_below hb5) ?_
  clear hK K
  try simp only [Act.put, List.getElem_toArray, List.getElem_cons_zero, List.getElem_cons_succ, List.setIfInBounds_toArray, List.set_cons_zero, List.set_cons_succ]
  refine pt_q (v := ?_) rfl (by rfl) ?_ ?_
  rotate_left
  · intro w' hBw'
    first | (go_simp; done) | (go_simp; with_reducible rfl)
  try simp only [Act.put, List.getElem_toArray, List.getElem_cons_zero, List.getElem_cons_succ, List.setIfInBounds_toArray, List.set_cons_zero, List.set_cons_succ]
  refine pt_done ?_
  go_wp2
  go_ret
  have hbE := below_up hbD (below_up hb4 hb5)
  have hs4 := hm4.lt
  refine ⟨w4.heap.size, Wd.heap.size, rfl, ⟨hR5, hm4.heap (heap_alloc_old _ _ hm4.lt), by omega, h.ok, h.len, h.most⟩, ?_, hbD.size, hbE⟩
  have := hbD.size; omega

namespace Sn
def eqB (E1 E2 : List (Sg × Int)) : Bool := decide (E1.length = E2.length) && E1.all fun p => decide (get E2 p.1 = some p)
end Sn
set_option maxHeartbeats 4000000 in
set_option maxRecDepth 100000 in
theorem seEqual_c {M1 M2 : Nat} {E1 E2 : List (Sg × Int)} (w : World) (h1 : SMap w M1 E1) (h2 : SMap w M2 E2) (hok : ∀ p ∈ E1, p.1.wf) :
    Calls Try.prog 29 #[.map (some M1), .map (some M2)] w (Ret (.bool (eqB E1 E2)) w) := by
  have l1 := h1.len Try.underlying30 3
  have l2 := h2.len Try.underlying30 3
  rw [List.length_map] at l1 l2
  obtain ⟨es, clock, hb, he, hbn, hrg⟩ := h1.range Try.underlying30
  have HE := Lib.hid (fun (e : MapEntry) (hm : e ∈ es.toList) => show ∃ p ∈ E1, e.key = sgV p.1 ∧ e.val = .int .u64 p.2 by
    have : (e.key, e.val) ∈ E1.map sEnt := by rw [← he]; exact List.mem_map.2 ⟨e, hm, rfl⟩
    obtain ⟨p, hp, hpe⟩ := List.mem_map.1 this
    exact ⟨p, hp, (congrArg Prod.fst hpe).symm, (congrArg Prod.snd hpe).symm⟩)
  have HI := Lib.hid (fun (p : Sg × Int) (hm : p ∈ E1) => show ∃ e ∈ es.toList, e.key = sgV p.1 ∧ e.val = .int .u64 p.2 by
    have : sEnt p ∈ es.toList.map (fun e => (e.key, e.val)) := by rw [he]; exact List.mem_map.2 ⟨p, hm, rfl⟩
    obtain ⟨e, hp, hpe⟩ := List.mem_map.1 this
    exact ⟨e, hp, congrArg Prod.fst hpe, congrArg Prod.snd hpe⟩)
  have HO := Lib.hid hok
  have HN := Lib.hid hbn
  clear he hok hbn
  generalize hres : eqB E1 E2 = res
  have RES := Lib.hid hres
  clear hres
  by_cases hsz : E1.length = E2.length
  · have hsz' : (E1.length : Int) = (E2.length : Int) := by omega
    have R0 := Rng.start hb
    have h20 := h2.heap (heap_alloc_old w (.mapIter (some M1) clock #[] clock) h2.lt)
    have hB0 := below_alloc w (.mapIter (some M1) clock #[] clock)
    have HB := Lib.hid hB0
    clear hB0
    have hM1 := (Array.getElem?_eq_some_iff.1 hb).1
    have hM2 := h2.lt
    clear h1
    go_enter Try.func29, Try.ntmps29
    go_wp2
    go_loopw [18] (fun _ wr => ∃ (seen : Array Nat), Rng wr M1 w.heap.size es clock seen ∧ SMap wr M2 E2 ∧ Below w.heap.size w wr ∧ RowKit.Hid (∀ e ∈ es.toList, seen.contains e.born = true → ∃ p ∈ E1, e.key = sgV p.1 ∧ e.val = .int .u64 p.2 ∧ get E2 p.1 = some p)) (fun _ wr => rngLeft wr M1 w.heap.size)
    case atStart => exact ⟨#[], R0, h20, HB.out, Lib.hid (fun e _ h => by simp at h)⟩
    case round =>
      obtain ⟨seen, R, h2r, hBr, HG⟩ := hrel
      rcases R.next (P := Try.prog) HN.out 0 with ⟨hl0, hrun⟩ | ⟨e, w1, hme, hrun, R1, hb1⟩
      · have HL := Lib.hid hl0
        clear hl0
        go_wp2
        go_ret
        refine ⟨retB ?_, hBr⟩
        rw [← RES.out]
        unfold eqB
        symm
        rw [Bool.and_eq_true, decide_eq_true_eq, List.all_eq_true]
        refine ⟨hsz, fun p hp => decide_eq_true ?_⟩
        obtain ⟨e, hm, h3, h4⟩ := HI.out p hp
        obtain ⟨q, hq, h5, h6, h7⟩ := HG.out e hm (all_seen es seen HL.out e hm)
        have : q = p := by
          have h8 := sgV_inj (h5.symm.trans h3)
          have h9 := h6.symm.trans h4
          simp at h9
          exact Prod.ext h8 h9
        rw [← this]; exact h7
      · have hme' := mem_left hme
        obtain ⟨p, hp, hk, hv⟩ := HE.out e hme'.1
        have hen := R1.entry (P := Try.prog) HN.out hme'.1
        have HK := Lib.hid hk
        have HV := Lib.hid hv
        rw [hk, hv] at hrun hen
        have h2w := h2r.heap (hb1.same M2 h2r.lt (by omega))
        have hlt := left_shrinks es seen e hme
        have HLT := Lib.hid hlt
        have HM := Lib.hid hme'
        replace R := Lib.hid R
        have HB1 := Lib.hid (hBr.trans (hb1.below (fun k hk => by omega) hBr.size))
        clear hk hv hme hme' hlt hBr hb1 hb hrg
        have hc := HO.out p hp
        have hup : SMap (w1.alloc (.cells (sgC p.1).toArray 38)) M2 E2 := h2w.heap (heap_alloc_old _ _ h2w.lt)
        have hl := slook hup hc true
        have A1 := RowAt.new w1 (sgC p.1).toArray 38
        simp only [if_true] at hl
        cases hg : Sn.get E2 p.1 with
        | none =>
          have HBAD := Lib.hid (show eqB E1 E2 = false by
            unfold eqB
            rw [Bool.and_eq_false_iff]
            right
            rw [List.all_eq_false]
            exact ⟨p, hp, by rw [hg]; simp⟩)
          have hh : hasB E2 p.1 = false := by unfold hasB; rw [hg]; rfl
          rw [hh] at hl
          clear hg hh
          go_wp2_with (first
            | (refine wpList_load_mid rfl 38 (.tmp 5) rfl w1.heap.size 0 rfl (sgC p.1) _ A1.range Try.underlying38 rfl (by kernel_rfl) ?_)
            | (refine wpList_look rfl 30 (.tmp 22) (.tmp 23) true rfl (mv := .map (some M2)) (iv := sgV p.1) rfl rfl hl ?_))
          go_ret
          exact ⟨retB (by rw [← RES.out, HBAD.out]), HB1.out.alloc HB1.out.size _⟩
        | some q =>
          have hh : hasB E2 p.1 = true := by unfold hasB; rw [hg]; rfl
          rw [hh, lk_of hg] at hl
          have hq1 : q.1 = p.1 := get_key hg
          by_cases hqp : q.2 = p.2
          · have hqq : q = p := Prod.ext hq1 hqp
            have HG1 := Lib.hid (hg.trans (by rw [hqq]))
            rw [hqp] at hl
            clear hg hh hq1 hqp
            subst hqq
            go_wp2_with (first
              | (refine wpList_load_mid rfl 38 (.tmp 5) rfl w1.heap.size 0 rfl (sgC q.1) _ A1.range Try.underlying38 rfl (by kernel_rfl) ?_)
              | (refine wpList_look rfl 30 (.tmp 22) (.tmp 23) true rfl (mv := .map (some M2)) (iv := sgV q.1) rfl rfl hl ?_))
            have hB3 := below_alloc w1 (.cells (sgC q.1).toArray 38)
            go_roundw
            case rel => exact ⟨_, R1.up hB3, h2w.heap (hB3.block _ h2w.lt), below_up HB1.out hB3, Lib.hid (fun x hx hs => by
              rw [Array.contains_push, Bool.or_eq_true] at hs
              rcases hs with hs | hs
              · exact HG.out x hx hs
              · have hxe : x.born = e.born := by simpa using hs
                have := born_inj HN.out.2 hx HM.out.1 hxe
                subst this
                exact ⟨q, hp, HK.out, HV.out, HG1.out⟩)⟩
            case measure => rw [(R1.up hB3).left, R.out.left]; exact HLT.out
          · have HBAD := Lib.hid (show eqB E1 E2 = false by
              unfold eqB
              rw [Bool.and_eq_false_iff]
              right
              rw [List.all_eq_false]
              exact ⟨p, hp, by rw [hg]; simp; intro e; exact hqp (by rw [e])⟩)
            have hne : (p.2 == q.2) = false := by simp; omega
            have hne2 : decide (p.2 = q.2) = false := decide_eq_false (by omega)
            have hne3 : ¬ p.2 = q.2 := by omega
            clear hg hh
            go_wp2_with (first
              | (refine wpList_load_mid rfl 38 (.tmp 5) rfl w1.heap.size 0 rfl (sgC p.1) _ A1.range Try.underlying38 rfl (by kernel_rfl) ?_)
              | (refine wpList_look rfl 30 (.tmp 22) (.tmp 23) true rfl (mv := .map (some M2)) (iv := sgV p.1) rfl rfl hl ?_))
            go_ret
            exact ⟨retB (by rw [← RES.out, HBAD.out]), HB1.out.alloc HB1.out.size _⟩
  · have hne : ¬ ((E1.length : Int) = (E2.length : Int)) := by omega
    go_enter Try.func29, Try.ntmps29
    go_wp2
    go_ret
    exact ⟨retB (by rw [← RES.out]; simp [eqB, hsz]), Below.refl _ _⟩
end Go.Proofs.Ytfoncaamhleckaa
