/-
  Contracts of slices.Equal, slices.Clone, maps.Clone at disks; of Copy.
-/
import Derived.Test.YtekpjbablcoahaaDiskK
import Derived.Test.YtekpjbablcoahaaArrEq
import Derived.Shelf.SlMaps.Clone
namespace Go.Proofs.Ytekpjbablcoahaa
open Go.RowKit Go.Maps Dk
set_option linter.unusedSimpArgs false
set_option linter.unusedVariables false

theorem sec_equal (w : World) (d : Nat) (s t : Sec) : (Op.equalIn (d + 2) 76 (secV s) (secV t)).run Try.prog w = .ok (decide (s = t)) w := by
  rw [show decide (s = t) = decide (s.1 = t.1) by rw [decide_eq_decide]; exact ⟨fun h => by rw [h], fun h => Subtype.ext h⟩]
  exact run_equalIn_by8 w d 76 5 64 Try.underlying76 Try.underlying5 (by kernel_rfl) s.1 t.1 s.2 t.2
theorem sec_neql (s t : Sec) (w : World) : (binOp .neq 76 (secV s) (secV t)).run Try.prog w = .ok (.bool (!decide (s = t))) w := by
  rw [run_neq_struct, show (10000 : Nat) = 9998 + 2 from rfl, sec_equal]
  rfl
theorem part_sec (p : Int × Sec) (w : World) : (part 76 (putC p).toArray 1).run Try.prog w = .ok (secV p.2) w := by
  have hag : (isAgg 76).run Try.prog w = .ok true w := by unfold isAgg; rw [Sem.run_bind, run_underlying Try.underlying76 w]; rfl
  have hso : (sizeOf 76).run Try.prog w = .ok 64 w := by
    obtain ⟨i, hi, hz⟩ : ∃ i, Try.prog.info? 76 = some i ∧ i.size = 64 := by
      have := sec_info zsec
      rw [secC_len] at this
      cases hq : Try.prog.info? 76 with
      | none => rw [hq] at this; cases this
      | some i => exact ⟨i, rfl, by rw [hq] at this; exact Option.some.inj this⟩
    simp [sizeOf, typeInfo, hi, hz]
  simp only [part, Sem.run_bind, hag, Result.andThen_ok, if_true, hso, Sem.run_pure]
  have h64 := secC_len p.2
  suffices h : (putC p).toArray.extract 1 (1 + 64) = (secC p.2).toArray from congrArg (fun x => Result.ok (Value.agg x) w) h
  refine Array.ext_getElem? fun i => ?_
  rw [Array.getElem?_extract]
  by_cases h : i < 64
  · rw [if_pos (by rw [putArr]; omega), Nat.add_comm]; simp
  · rw [if_neg (by rw [putArr]; omega)]
    simp only [List.getElem?_toArray]
    rw [List.getElem?_eq_none (by omega)]
theorem put_neql (p q : Int × Sec) (w : World) : (binOp .neq 78 (putV p) (putV q)).run Try.prog w = .ok (.bool (!decide (p = q))) w := by
  have hpi : ∀ (p : Int × Sec) (w : World), (part 3 (putC p).toArray 0).run Try.prog w = .ok (.int .i64 p.1) w := fun p w => by
    have hag : (isAgg 3).run Try.prog w = .ok false w := by unfold isAgg; rw [Sem.run_bind, run_underlying Try.underlying3 w]; rfl
    simp [part, hag]
  have hf : (Try.prog.fieldsOf 78).toList.map (fun f => (f.name == "_", f.type, f.offset)) = [(false, 3, 0), (false, 76, 1)] := by kernel_rfl
  obtain ⟨f1, f2, hfs, a1, a2, a3, b1, b2, b3⟩ : ∃ f1 f2, (Try.prog.fieldsOf 78).toList = [f1, f2] ∧ (f1.name == "_") = false ∧ f1.type = 3 ∧ f1.offset = 0 ∧ (f2.name == "_") = false ∧ f2.type = 76 ∧ f2.offset = 1 := by
    generalize (Try.prog.fieldsOf 78).toList = fs at hf
    rcases fs with _ | ⟨f1, _ | ⟨f2, _ | ⟨f3, r⟩⟩⟩
    · cases hf
    · simp at hf
    · simp only [List.map_cons, List.map_nil, List.cons.injEq, Prod.mk.injEq, and_true] at hf
      exact ⟨f1, f2, rfl, hf.1.1, hf.1.2.1, hf.1.2.2, hf.2.1, hf.2.2.1, hf.2.2.2⟩
    · simp at hf
  have n1 : f1.name ≠ "_" := by simpa using a1
  have n2 : f2.name ≠ "_" := by simpa using b1
  rw [run_neq_struct, show (10000 : Nat) = 9999 + 1 from rfl, run_equalIn_struct w 9999 78 _ _ (by kernel_rfl) (by kernel_rfl), hfs]
  have he : (Op.equalIn 9999 3 (.int .i64 p.1) (.int .i64 q.1)).run Try.prog w = .ok (p.1 == q.1) w := run_equalIn_int w 9998 3 .i64 .i64 _ _ Try.underlying3
  have hs := sec_equal w 9997 p.2 q.2
  simp only [Op.eqFields, ne_eq, n1, n2, not_false_eq_true, if_true, a2, a3, b2, b3, Sem.run_bind, hpi, Result.andThen_ok, he, part_sec]
  by_cases h1 : p.1 = q.1
  · have e1 : (p.1 == q.1) = true := by simp [h1]
    simp only [e1, Bool.not_true, Bool.false_eq_true, if_false, Sem.run_bind, part_sec, Result.andThen_ok, hs]
    by_cases h2 : p.2 = q.2
    · have : p = q := Prod.ext h1 h2
      simp [h2, this]
    · have : ¬ p = q := fun e => h2 (by rw [e])
      simp [h2, this]
  · have e1 : (p.1 == q.1) = false := by simp [h1]
    have : ¬ p = q := fun e => h1 (by rw [e])
    simp [e1, this]

set_option maxRecDepth 100000 in
theorem dClone_c (l : List (Int × Sec)) (v : Value) (n : Nat) (w : World) (hv : Sl w 65 v n (l.flatMap putC)) (hn : n ≤ 1000000) :
    Calls Try.prog 37 #[v] w fun e w' => ∃ v', e = .returned v' ∧ w'.ownsRow w.heap.size 78 65 v' n (l.flatMap putC) ∧ Below w.heap.size w w' := by
  have hlen : l.length = n := Sl.recs (cells := putC) (sz := 65) (fun p => putC_len p) (by decide) hv
  obtain ⟨a, c, rfl⟩ := hv.len
  have hnil := fun w a => Lib.run_eql_slice_nil (P := Try.prog) w 68 _ a n c 0 0 Try.underlying68
  cases a with
  | none =>
    have h0 : n = 0 ∧ l = [] := by
      rcases hv.2 with ⟨_, _, _, h⟩ | ⟨b, off, cap, e, _⟩
      · exact ⟨h, List.eq_nil_of_length_eq_zero (by omega)⟩
      · simp at e
    obtain ⟨rfl, rfl⟩ := h0
    go_enter Try.func37, Try.ntmps37
    go_wp2
    go_ret
    exact ⟨_, rfl, World.ownsRow_nil _ _ _ _, Below.refl _ _⟩
  | some a =>
    go_enter Try.func37, Try.ntmps37
    go_wp2_with (at_builtin; refine wpList_app rfl _ _ 68 rfl slPut w.heap.size rfl (World.ownsRow_lit w #[] 0 (Nat.le_refl _) (by decide) rfl) rfl (hv.up ((Below.refl _ _).alloc (Nat.le_refl _) _)) (fun u hu => by obtain ⟨p, _, hp⟩ := List.mem_flatMap.1 hu; exact one_put p u hp) (by simp [maxLen]; omega) (by omega) (by simp) ?_; intro v' w1 hown hgrow _)
    go_ret
    exact ⟨v', rfl, by simpa using hown, grown_below ((Below.refl _ _).alloc (Nat.le_refl _) _) hgrow (fun k hk => by have : w.heap.size = k := Option.some.inj hk; omega)⟩

set_option maxRecDepth 100000 in
theorem dMapClone_c {M : Nat} {E : List (Int × Sec)} (w : World) (h : DMap w M E) :
    Calls Try.prog 36 #[.map (some M)] w fun en w' => en = .returned (.map (some w.heap.size)) ∧ DMap w' w.heap.size E ∧ Below w.heap.size w w' := by
  obtain ⟨es, clock, hb, he, hbn⟩ := h.ex
  have hm := fun w => run_eql_map_nil (P := Try.prog) w 67 _ _ (some M) Try.underlying67
  go_enter Try.func36, Try.ntmps36
  go_wp2
  rw [run_callFunc_extern Try.func51 (by kernel_rfl) (by kernel_rfl) (by kernel_rfl) (e := Extern.MapsClone.clone) (by kernel_rfl), run_maps_clone_sl w 67 hb]
  simp only [Result.andThen]
  rw [Oper.upon_value]
  go_wp2
  rw [run_typeAssert_map_sl _ 67 _ _ _ _ Try.underlying67]
  simp only [Result.andThen]
  rw [Oper.upon_value]
  go_wp2
  go_ret
  exact ⟨rfl, ⟨⟨es, clock, heap_alloc_new w _, he, hbn⟩, h.keys, h.one⟩, below_alloc _ _⟩

/-- A copy of a disk, in blocks of its own. -/
def Dk.Copied (d : Disk) (w : World) (en : Ending) (w' : World) : Prop := ∃ B' M' u', en = .returned (.pointer (some ⟨B', 0, none⟩)) ∧ DiskAt w' B' M' u' d ∧ w.heap.size ≤ B' ∧ w.heap.size ≤ M' ∧ (∀ k, u'.ownBlock = some k → w.heap.size ≤ k) ∧ Below w.heap.size w w'
set_option maxHeartbeats 2000000 in
set_option maxRecDepth 100000 in
theorem dCopy_c {B M : Nat} {u : Value} {d : Disk} (w : World) (h : DiskAt w B M u d) (hn : d.W.length ≤ 1000000) : Calls Try.prog 12 #[.pointer (some ⟨B, 0, none⟩)] w (Copied d w) := by
  obtain ⟨a, c, rfl⟩ := h.sl.len
  have HK := Lib.hid h.keys
  go_enter Try.func12, Try.ntmps12
  go_wp2_with (go_at_call 35; refine (dNone_c _ h).mono ?_; rintro en w1 ⟨rfl, rfl⟩)
  refine wp_region_pi [(0, false), (1, false), (2, false), (3, false), (4, false), (5, false), (6, false), (7, false), (8, false), (9, false), (10, false), (11, false), (13, false), (14, false), (15, false), (16, false), (12, true), (17, true), (18, false), (19, true), (20, false)] (by kernel_rfl) (by kernel_rfl) (by kernel_rfl) rfl (fun _ _ d _ _ h => by cases d <;> exact h) (fun Wd hBd => ?_)
  try simp only [Act.put, List.getElem_toArray, List.getElem_cons_zero, List.getElem_cons_succ, List.setIfInBounds_toArray, List.set_cons_zero, List.set_cons_succ]
  have V2 : ∀ w', Below Wd.heap.size Wd w' → DiskAt w' B M (.slice a d.W.length c) d := fun w' hb => h.below (below_up hBd hb)
  have k0 : ∀ w', Below Wd.heap.size Wd w' → w'.cell? ⟨B, 0, none⟩ = some (.int .i64 d.left) := fun w' hb => (V2 w' hb).var.cell (i := 0) rfl
  have k1 : ∀ w', Below Wd.heap.size Wd w' → w'.cell? ⟨B, 1, none⟩ = some (.int .i64 d.many) := fun w' hb => (V2 w' hb).var.cell (i := 1) rfl
  have k2 : ∀ w', Below Wd.heap.size Wd w' → w'.cell? ⟨B, 2, none⟩ = some (.map (some M)) := fun w' hb => (V2 w' hb).var.cell (i := 2) rfl
  have k3 : ∀ w', Below Wd.heap.size Wd w' → w'.cell? ⟨B, 3, none⟩ = some (.slice a d.W.length c) := fun w' hb => (V2 w' hb).var.cell (i := 3) rfl
  refine pi_q (v := ?_) rfl (by rfl) ?_ ?_
  rotate_left
  · intro w' hBw'
    first | (go_simp; done) | (go_simp; with_reducible rfl)
  try simp only [Act.put, List.getElem_toArray, List.getElem_cons_zero, List.getElem_cons_succ, List.setIfInBounds_toArray, List.set_cons_zero, List.set_cons_succ]
  refine pi_q (v := ?_) rfl (by rfl) ?_ ?_
  rotate_left
  · intro w' hBw'
    first | (go_simp; done) | (go_simp; with_reducible rfl)
  try simp only [Act.put, List.getElem_toArray, List.getElem_cons_zero, List.getElem_cons_succ, List.setIfInBounds_toArray, List.set_cons_zero, List.set_cons_succ]
  refine pi_q (v := ?_) rfl (by rfl) ?_ ?_
  rotate_left
  · intro w' hBw'
    first | (go_simp; done) | (go_simp; with_reducible rfl)
  try simp only [Act.put, List.getElem_toArray, List.getElem_cons_zero, List.getElem_cons_succ, List.setIfInBounds_toArray, List.set_cons_zero, List.set_cons_succ]
  refine pi_q (v := ?_) rfl (by rfl) ?_ ?_
  rotate_left
  · intro w' hBw'
    first | (go_simp; done) | (go_simp; with_reducible rfl)
  try simp only [Act.put, List.getElem_toArray, List.getElem_cons_zero, List.getElem_cons_succ, List.setIfInBounds_toArray, List.set_cons_zero, List.set_cons_succ]
  refine pi_q (v := ?_) rfl (by rfl) ?_ ?_
  rotate_left
  · intro w' hBw'
    first | (go_simp; done) | (go_simp; with_reducible rfl)
  try simp only [Act.put, List.getElem_toArray, List.getElem_cons_zero, List.getElem_cons_succ, List.setIfInBounds_toArray, List.set_cons_zero, List.set_cons_succ]
  refine pi_q (v := ?_) rfl (by rfl) ?_ ?_
  rotate_left
  · intro w' hBw'
    first | (go_simp; done) | (go_simp; with_reducible rfl)
  try simp only [Act.put, List.getElem_toArray, List.getElem_cons_zero, List.getElem_cons_succ, List.setIfInBounds_toArray, List.set_cons_zero, List.set_cons_succ]
  refine pi_q (v := ?_) rfl (by rfl) ?_ ?_
  rotate_left
  · intro w' hBw'
    first | (go_simp; done) | (go_simp; with_reducible rfl)
  try simp only [Act.put, List.getElem_toArray, List.getElem_cons_zero, List.getElem_cons_succ, List.setIfInBounds_toArray, List.set_cons_zero, List.set_cons_succ]
  refine pi_q (v := ?_) rfl (by rfl) ?_ ?_
  rotate_left
  · intro w' hBw'
    first | (go_simp; done) | (go_simp; with_reducible rfl)
  try simp only [Act.put, List.getElem_toArray, List.getElem_cons_zero, List.getElem_cons_succ, List.setIfInBounds_toArray, List.set_cons_zero, List.set_cons_succ]
  refine pi_q (v := ?_) rfl (by rfl) ?_ ?_
  rotate_left
  · intro w' hBw'
    first | (go_simp; done) | (go_simp; with_reducible rfl)
  try simp only [Act.put, List.getElem_toArray, List.getElem_cons_zero, List.getElem_cons_succ, List.setIfInBounds_toArray, List.set_cons_zero, List.set_cons_succ]
  refine pi_q (v := ?_) rfl (by rfl) ?_ ?_
  rotate_left
  · intro w' hBw'
    first | (go_simp; done) | (go_simp; with_reducible rfl)
  try simp only [Act.put, List.getElem_toArray, List.getElem_cons_zero, List.getElem_cons_succ, List.setIfInBounds_toArray, List.set_cons_zero, List.set_cons_succ]
  refine pi_q (v := ?_) rfl (by rfl) ?_ ?_
  rotate_left
  · intro w' hBw'
    first | (go_simp; done) | (go_simp; with_reducible rfl)
  try simp only [Act.put, List.getElem_toArray, List.getElem_cons_zero, List.getElem_cons_succ, List.setIfInBounds_toArray, List.set_cons_zero, List.set_cons_succ]
  refine pi_q (v := ?_) rfl (by rfl) ?_ ?_
  rotate_left
  · intro w' hBw'
    first | (go_simp; done) | (go_simp; with_reducible rfl)
  try simp only [Act.put, List.getElem_toArray, List.getElem_cons_zero, List.getElem_cons_succ, List.setIfInBounds_toArray, List.set_cons_zero, List.set_cons_succ]
  refine pi_q (v := ?_) rfl (by rfl) ?_ ?_
  rotate_left
  · intro w' hBw'
    first | (go_simp; done) | (go_simp; with_reducible rfl)
  try simp only [Act.put, List.getElem_toArray, List.getElem_cons_zero, List.getElem_cons_succ, List.setIfInBounds_toArray, List.set_cons_zero, List.set_cons_succ]
  refine pi_q (v := ?_) rfl (by rfl) ?_ ?_
  rotate_left
  · intro w' hBw'
    first | (go_simp; done) | (go_simp; with_reducible rfl)
  try simp only [Act.put, List.getElem_toArray, List.getElem_cons_zero, List.getElem_cons_succ, List.setIfInBounds_toArray, List.set_cons_zero, List.set_cons_succ]
  refine pi_q (v := ?_) rfl (by rfl) ?_ ?_
  rotate_left
  · intro w' hBw'
    first | (go_simp; done) | (go_simp; with_reducible rfl)
  try simp only [Act.put, List.getElem_toArray, List.getElem_cons_zero, List.getElem_cons_succ, List.setIfInBounds_toArray, List.set_cons_zero, List.set_cons_succ]
  refine pi_q (v := ?_) rfl (by rfl) ?_ ?_
  rotate_left
  · intro w' hBw'
    first | (go_simp; done) | (go_simp; with_reducible rfl)
  try simp only [Act.put, List.getElem_toArray, List.getElem_cons_zero, List.getElem_cons_succ, List.setIfInBounds_toArray, List.set_cons_zero, List.set_cons_succ]
  refine pi_c rfl (by rfl) (fun K hK => ?_)
  go_simp
  refine (dMapClone_c _ (V2 Wd (Below.refl _ _)).map).mono ?_
  rintro en w2 ⟨rfl, hm2, hb2⟩
  have k3 : ∀ w', Below w2.heap.size w2 w' → w'.cell? ⟨B, 3, none⟩ = some (.slice a d.W.length c) := fun w' hb => (V2 w' (below_up hb2 hb)).var.cell (i := 3) rfl
  refine hK.out _ _ hb2 ?_
  clear hK K
  try simp only [Act.put, List.getElem_toArray, List.getElem_cons_zero, List.getElem_cons_succ, List.setIfInBounds_toArray, List.set_cons_zero, List.set_cons_succ]
  refine pi_c rfl (by rfl) (fun K hK => ?_)
  go_simp
  refine (dClone_c d.W _ d.W.length _ (V2 w2 hb2).sl hn).mono ?_
  rintro en w3 ⟨v3, rfl, hown3, hb3⟩
  obtain ⟨a3, c3, rfl⟩ := own_slice hown3
  refine hK.out _ _ hb3 ?_
  clear hK K
  try simp only [Act.put, List.getElem_toArray, List.getElem_cons_zero, List.getElem_cons_succ, List.setIfInBounds_toArray, List.set_cons_zero, List.set_cons_succ]
  refine pi_q (v := ?_) rfl (by rfl) ?_ ?_
  rotate_left
  · intro w' hBw'
    first | (go_simp; done) | (go_simp; with_reducible rfl)
  try simp only [Act.put, List.getElem_toArray, List.getElem_cons_zero, List.getElem_cons_succ, List.setIfInBounds_toArray, List.set_cons_zero, List.set_cons_succ]
  refine pi_c rfl (by rfl) (fun K hK => ?_)
  go_simp
  have hz3 : Below w3.heap.size w3 (w3.alloc (.cells #[.int .i64 d.left, .int .i64 d.many, .map (some Wd.heap.size), .slice a3 d.W.length c3] 70)) := below_alloc _ _
  refine hK.out _ _ hz3 ?_
  clear hK K
  try simp only [Act.put, List.getElem_toArray, List.getElem_cons_zero, List.getElem_cons_succ, List.setIfInBounds_toArray, List.set_cons_zero, List.set_cons_succ]
  refine pi_q (v := ?_) rfl (by rfl) ?_ ?_
  rotate_left
  · intro w' hBw'
    first | (go_simp; done) | (go_simp; with_reducible rfl)
  try simp only [Act.put, List.getElem_toArray, List.getElem_cons_zero, List.getElem_cons_succ, List.setIfInBounds_toArray, List.set_cons_zero, List.set_cons_succ]
  refine pi_nil ?_
  go_wp2
  have hz1 := hBd.size
  have hz2 := hb2.size
  have hz4 := hb3.size
  go_ret
  refine ⟨w3.heap.size, Wd.heap.size, _, by simp, ⟨RowAt.new w3 _ _, ?_, (Sl.of_own hown3).up (below_alloc _ _), ?_, HK.out⟩, by omega, by omega, fun k hk => ?_, below_up hBd (below_up hb2 (below_up hb3 hz3))⟩
  · exact hm2.heap ((below_up hb3 hz3).block _ hm2.lt)
  · have := hm2.lt; omega
  · have := (own_of_some hown3 hk).1; omega
end Go.Proofs.Ytekpjbablcoahaa
