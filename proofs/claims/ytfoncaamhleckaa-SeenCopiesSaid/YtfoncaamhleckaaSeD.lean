/-
  The contracts of See's questions and of See.
-/
import Derived.Test.YtfoncaamhleckaaSeC
import Derived.Test.YtfoncaamhleckaaFast
namespace Go.Proofs.Ytfoncaamhleckaa
open Go.RowKit Go.Maps Trc Sn
set_option linter.unusedSimpArgs false
set_option linter.unusedVariables false

theorem sg_nmK {w : World} {A : Nat} {s : Sg} {K : TypeId} (h : RowAt w A (sgC s).toArray K) : w.rangeAt A 0 [.int .u32 s.n.node, .int .u32 s.n.service, .int .u64 s.n.time, .int .u32 s.n.seq] := fun j v hj => by
  rw [Nat.zero_add]
  refine h.cell (i := j) ?_
  match j, hj with
  | 0, hj => exact hj
  | 1, hj => exact hj
  | 2, hj => exact hj
  | 3, hj => exact hj
  | j + 4, hj => simp at hj
theorem sg_nm {w : World} {A : Nat} {s : Sg} (h : RowAt w A (sgC s).toArray 38) : w.rangeAt A 0 [.int .u32 s.n.node, .int .u32 s.n.service, .int .u64 s.n.time, .int .u32 s.n.seq] := sg_nmK h
def Sn.farB (u : Int) : Bool := decide (4611686018427387903 ≤ u)
set_option maxRecDepth 100000 in
theorem see1_c (s : Sg) (u : Int) {A B : Nat} (w : World) (hA : RowAt w A (sgC s).toArray 38) (hU : RowAt w B #[.int .u64 u] 23) :
    Calls Try.prog 24 #[.pointer (some ⟨A, 0, none⟩), .pointer (some ⟨B, 0, none⟩)] w (Ret (.bool (!(nmOk s) || farB u)) w) := by
  have hr := sg_nm hA
  have hck := seCheck_c s
  cases hb : nmOk s with
  | false =>
    rw [hb] at hck
    simp only [Bool.false_eq_true, if_false] at hck
    go_enter Try.func24, Try.ntmps24
    go_wp2_with (first
      | (refine wpList_load_mid rfl 36 (.tmp 3) rfl A 0 rfl [.int .u32 s.n.node, .int .u32 s.n.service, .int .u64 s.n.time, .int .u32 s.n.seq] _ hr Try.underlying36 rfl (by kernel_rfl) ?_)
      | (go_at_call 25; refine (hck _).mono ?_; rintro en w1 ⟨rfl, hb1⟩))
    go_ret
    exact ⟨rfl, hb1⟩
  | true =>
    rw [hb] at hck
    simp only [if_true] at hck
    go_enter Try.func24, Try.ntmps24
    go_wp2_with (first
      | (refine wpList_load_mid rfl 36 (.tmp 3) rfl A 0 rfl [.int .u32 s.n.node, .int .u32 s.n.service, .int .u64 s.n.time, .int .u32 s.n.seq] _ hr Try.underlying36 rfl (by kernel_rfl) ?_)
      | (go_at_call 25; refine (hck _).mono ?_; rintro en w1 ⟨rfl, hb1⟩; have hU1 := (hU.below hb1).cell (i := 0) (v := .int .u64 u) rfl))
    go_ret
    refine ⟨retB ?_, hb1⟩
    unfold farB
    simp
set_option maxRecDepth 100000 in
theorem see2_c {T M C A : Nat} {most : Int} {E : List (Sg × Int)} (s : Sg) (hs : s.wf) (w : World) (h : Tab w T M most E) (hC : RowAt w C #[.pointer (some ⟨T, 0, none⟩)] 25) (hA : RowAt w A (sgC s).toArray 38) :
    Calls Try.prog 26 #[.pointer (some ⟨C, 0, none⟩), .pointer (some ⟨A, 0, none⟩)] w (Ret (.bool (hasB E s)) w) := by
  go_enter Try.func26, Try.ntmps26
  go_wp2
  refine wp_region_pt (fun _ => False) (.q 0 (.q 1 (.q 2 (.q 3 (.q 4 (.q 5 (.q 6 (.q 7 (.q 8 (.q 9 (.q 10 .done))))))))))) (by kernel_rfl) (by kernel_rfl) (by kernel_rfl) (by decide) (fun _ _ d _ _ h => by cases d <;> exact h) (fun Wd hBd => ?_)
  try simp only [Act.put, List.getElem_toArray, List.getElem_cons_zero, List.getElem_cons_succ, List.setIfInBounds_toArray, List.set_cons_zero, List.set_cons_succ]
  have h1 := h.below hBd
  have fC := (hC.below hBd).cell (i := 0) (v := .pointer (some ⟨T, 0, none⟩)) rfl
  have fM := h1.var.cell (i := 1) (v := .map (some M)) rfl
  refine pt_q (v := ?_) rfl (by rfl) ?_ ?_
  rotate_left
  · intro w' hBw'
    have qL := hBw'.cell fC (fun e => e)
    first | (go_simp; done) | (go_simp; with_reducible rfl)
  try simp only [Act.put, List.getElem_toArray, List.getElem_cons_zero, List.getElem_cons_succ, List.setIfInBounds_toArray, List.set_cons_zero, List.set_cons_succ]
  refine pt_q (v := ?_) rfl (by rfl) ?_ ?_
  rotate_left
  · intro w' hBw'
    first | (go_simp; done) | (go_simp; with_reducible rfl)
  try simp only [Act.put, List.getElem_toArray, List.getElem_cons_zero, List.getElem_cons_succ, List.setIfInBounds_toArray, List.set_cons_zero, List.set_cons_succ]
  refine pt_q (v := ?_) rfl (by rfl) ?_ ?_
  rotate_left
  · intro w' hBw'
    first | (go_simp; done) | (go_simp; with_reducible rfl)
  try simp only [Act.put, List.getElem_toArray, List.getElem_cons_zero, List.getElem_cons_succ, List.setIfInBounds_toArray, List.set_cons_zero, List.set_cons_succ]
  refine pt_q (v := ?_) rfl (by rfl) ?_ ?_
  rotate_left
  · intro w' hBw'
    have qL := hBw'.cell fM (fun e => e)
    first | (go_simp; done) | (go_simp; with_reducible rfl)
  try simp only [Act.put, List.getElem_toArray, List.getElem_cons_zero, List.getElem_cons_succ, List.setIfInBounds_toArray, List.set_cons_zero, List.set_cons_succ]
  refine pt_load rfl (by rfl) 38 (.tmp 1) rfl A 0 rfl (sgC s) _ (hA.below hBd).range (fun e => e) Try.underlying38 rfl (by kernel_rfl) ?_
  try simp only [Act.put, List.getElem_toArray, List.getElem_cons_zero, List.getElem_cons_succ, List.setIfInBounds_toArray, List.set_cons_zero, List.set_cons_succ]
  refine pt_look rfl (by rfl) 30 (.tmp 9) (.tmp 10) true rfl (mv := .map (some M)) (xv := sgV s) rfl rfl (fun w' hb => by have := slook (h1.map.heap (hb.same M h1.map.lt (fun e => e))) hs true; simpa using this) ?_
  try simp only [Act.put, List.getElem_toArray, List.getElem_cons_zero, List.getElem_cons_succ, List.setIfInBounds_toArray, List.set_cons_zero, List.set_cons_succ]
  refine pt_q (v := ?_) rfl (by rfl) ?_ ?_
  rotate_left
  · intro w' hBw'
    first | (go_simp; done) | (go_simp; with_reducible rfl)
  try simp only [Act.put, List.getElem_toArray, List.getElem_cons_zero, List.getElem_cons_succ, List.setIfInBounds_toArray, List.set_cons_zero, List.set_cons_succ]
  refine pt_q (v := ?_) rfl (by rfl) ?_ ?_
  rotate_left
  · intro w' hBw'
    first | (go_simp; done) | (go_simp; with_reducible rfl)
  try simp only [Act.put, List.getElem_toArray, List.getElem_cons_zero, List.getElem_cons_succ, List.setIfInBounds_toArray, List.set_cons_zero, List.set_cons_succ]
  refine pt_q (v := ?_) rfl (by rfl) ?_ ?_
  rotate_left
  · intro w' hBw'
    first | (go_simp; done) | (go_simp; with_reducible rfl)
  try simp only [Act.put, List.getElem_toArray, List.getElem_cons_zero, List.getElem_cons_succ, List.setIfInBounds_toArray, List.set_cons_zero, List.set_cons_succ]
  refine pt_q (v := ?_) rfl (by rfl) ?_ ?_
  rotate_left
  · intro w' hBw'
    first | (go_simp; done) | (go_simp; with_reducible rfl)
  try simp only [Act.put, List.getElem_toArray, List.getElem_cons_zero, List.getElem_cons_succ, List.setIfInBounds_toArray, List.set_cons_zero, List.set_cons_succ]
  refine pt_q (v := ?_) rfl (by rfl) ?_ ?_
  rotate_left
  · intro w' hBw'
    first | (go_simp; done) | (go_simp; with_reducible rfl)
  try simp only [Act.put, List.getElem_toArray, List.getElem_cons_zero, List.getElem_cons_succ, List.setIfInBounds_toArray, List.set_cons_zero, List.set_cons_succ]
  refine pt_done ?_
  go_wp2
  go_ret
  exact ⟨rfl, hBd⟩
set_option maxRecDepth 100000 in
theorem see3_c {T M C : Nat} {most : Int} {E : List (Sg × Int)} (w : World) (h : Tab w T M most E) (hC : RowAt w C #[.pointer (some ⟨T, 0, none⟩)] 25) :
    Calls Try.prog 27 #[.pointer (some ⟨C, 0, none⟩)] w (Ret (.bool (decide ((E.length : Int) ≥ most))) w) := by
  go_enter Try.func27, Try.ntmps27
  go_wp2
  refine wp_region_pt (fun _ => False) (.q 0 (.q 1 (.q 2 (.q 3 (.q 4 (.q 5 (.q 6 (.q 7 (.q 8 (.c 9 (.q 10 .done))))))))))) (by kernel_rfl) (by kernel_rfl) (by kernel_rfl) (by decide) (fun _ _ d _ _ h => by cases d <;> exact h) (fun Wd hBd => ?_)
  try simp only [Act.put, List.getElem_toArray, List.getElem_cons_zero, List.getElem_cons_succ, List.setIfInBounds_toArray, List.set_cons_zero, List.set_cons_succ]
  have h1 := h.below hBd
  have fC := (hC.below hBd).cell (i := 0) (v := .pointer (some ⟨T, 0, none⟩)) rfl
  have fM := h1.var.cell (i := 1) (v := .map (some M)) rfl
  have fB : Wd.rangeAt T 0 [.int .i64 most] := fun j v hj => by (match j, hj with | 0, hj => exact h1.var.cell (i := 0) hj | j + 1, hj => simp at hj)
  refine pt_q (v := ?_) rfl (by rfl) ?_ ?_
  rotate_left
  · intro w' hBw'
    have qL := hBw'.cell fC (fun e => e)
    first | (go_simp; done) | (go_simp; with_reducible rfl)
  try simp only [Act.put, List.getElem_toArray, List.getElem_cons_zero, List.getElem_cons_succ, List.setIfInBounds_toArray, List.set_cons_zero, List.set_cons_succ]
  refine pt_q (v := ?_) rfl (by rfl) ?_ ?_
  rotate_left
  · intro w' hBw'
    first | (go_simp; done) | (go_simp; with_reducible rfl)
  try simp only [Act.put, List.getElem_toArray, List.getElem_cons_zero, List.getElem_cons_succ, List.setIfInBounds_toArray, List.set_cons_zero, List.set_cons_succ]
  refine pt_q (v := ?_) rfl (by rfl) ?_ ?_
  rotate_left
  · intro w' hBw'
    first | (go_simp; done) | (go_simp; with_reducible rfl)
  try simp only [Act.put, List.getElem_toArray, List.getElem_cons_zero, List.getElem_cons_succ, List.setIfInBounds_toArray, List.set_cons_zero, List.set_cons_succ]
  refine pt_load rfl (by rfl) 64 (.tmp 4) rfl T 0 rfl [.int .i64 most] _ fB (fun e => e) Try.underlying64 rfl (by kernel_rfl) ?_
  try simp only [Act.put, List.getElem_toArray, List.getElem_cons_zero, List.getElem_cons_succ, List.setIfInBounds_toArray, List.set_cons_zero, List.set_cons_succ]
  refine pt_q (v := ?_) rfl (by rfl) ?_ ?_
  rotate_left
  · intro w' hBw'
    have qL := hBw'.cell fC (fun e => e)
    first | (go_simp; done) | (go_simp; with_reducible rfl)
  try simp only [Act.put, List.getElem_toArray, List.getElem_cons_zero, List.getElem_cons_succ, List.setIfInBounds_toArray, List.set_cons_zero, List.set_cons_succ]
  refine pt_q (v := ?_) rfl (by rfl) ?_ ?_
  rotate_left
  · intro w' hBw'
    first | (go_simp; done) | (go_simp; with_reducible rfl)
  try simp only [Act.put, List.getElem_toArray, List.getElem_cons_zero, List.getElem_cons_succ, List.setIfInBounds_toArray, List.set_cons_zero, List.set_cons_succ]
  refine pt_q (v := ?_) rfl (by rfl) ?_ ?_
  rotate_left
  · intro w' hBw'
    first | (go_simp; done) | (go_simp; with_reducible rfl)
  try simp only [Act.put, List.getElem_toArray, List.getElem_cons_zero, List.getElem_cons_succ, List.setIfInBounds_toArray, List.set_cons_zero, List.set_cons_succ]
  refine pt_q (v := ?_) rfl (by rfl) ?_ ?_
  rotate_left
  · intro w' hBw'
    have qL := hBw'.cell fM (fun e => e)
    first | (go_simp; done) | (go_simp; with_reducible rfl)
  try simp only [Act.put, List.getElem_toArray, List.getElem_cons_zero, List.getElem_cons_succ, List.setIfInBounds_toArray, List.set_cons_zero, List.set_cons_succ]
  refine pt_q (v := .int .i64 E.length) rfl (by rfl) (fun w' hBw' => by have ql := (h1.map.heap (hBw'.same M h1.map.lt (fun e => e))).len Try.underlying30 3; rw [List.length_map] at ql; first | (go_simp; done) | (go_simp; with_reducible rfl)) ?_
  try simp only [Act.put, List.getElem_toArray, List.getElem_cons_zero, List.getElem_cons_succ, List.setIfInBounds_toArray, List.set_cons_zero, List.set_cons_succ]
  refine pt_c ?_
  refine pt_step rfl (by rfl) (fun K hK => ?_)
  go_simp
  refine (seFull_c _ _ _).mono ?_
  rintro en w4 ⟨rfl, hb⟩
  go_wp2_with fail
  refine hK.out _ _ (But.of_below hb) ?_
  clear hK K
  try simp only [Act.put, List.getElem_toArray, List.getElem_cons_zero, List.getElem_cons_succ, List.setIfInBounds_toArray, List.set_cons_zero, List.set_cons_succ]
  refine pt_q (v := ?_) rfl (by rfl) ?_ ?_
  rotate_left
  · intro w' hBw'
    first | (go_simp; done) | (go_simp; with_reducible rfl)
  try simp only [Act.put, List.getElem_toArray, List.getElem_cons_zero, List.getElem_cons_succ, List.setIfInBounds_toArray, List.set_cons_zero, List.set_cons_succ]
  refine pt_done ?_
  go_wp2
  go_ret
  exact ⟨rfl, below_up hBd hb⟩
theorem sl_lit (w : World) (k : Nat) (hk : k = w.heap.size) (sz n : Nat) (cs : List Value) (T : TypeId) (hl : cs.length = n * sz) (hm : n ≤ maxLen) : Sl (w.alloc (.cells cs.toArray T)) sz (.slice (some ⟨k, 0, none⟩) n n) n cs := by
  subst hk
  refine ⟨hl, .inr ⟨w.heap.size, 0, n, rfl, Nat.le_refl _, hm, fun j u hj => ?_⟩⟩
  exact (RowAt.new w cs.toArray T).cell (i := 0 + j) (by simpa using hj)
theorem seEnters_none : Enters Try.prog 23 := enters_of Try.func23 (by kernel_rfl) rfl
theorem seEnters_1 : Enters Try.prog 24 := enters_of Try.func24 (by kernel_rfl) rfl
theorem seEnters_2 : Enters Try.prog 26 := enters_of Try.func26 (by kernel_rfl) rfl
theorem seEnters_3 : Enters Try.prog 27 := enters_of Try.func27 (by kernel_rfl) rfl

namespace Sn
/-- See's error. -/
def seeE (most : Int) (E : List (Sg × Int)) (s : Sg) (u : Int) : Int :=
  if (!(nmOk s) || farB u) = true then 2 else if hasB E s = true then 150 else if most ≤ (E.length : Int) then 230 else 0
/-- What See leaves. -/
def seeL (most : Int) (E : List (Sg × Int)) (s : Sg) (u : Int) : List (Sg × Int) := if seeE most E s u = 0 then E ++ [(s, u)] else E
theorem seeE_ok {most : Int} {E : List (Sg × Int)} {s : Sg} {u : Int} (h : seeE most E s u = 0) : nmOk s = true ∧ farB u = false ∧ hasB E s = false ∧ (E.length : Int) < most := by
  unfold seeE at h
  split at h
  · omega
  · split at h
    · omega
    · split at h
      · omega
      · rename_i h1 h2 h3
        simp at h1 h2
        exact ⟨h1.1, h1.2, h2, by omega⟩
end Sn
theorem seAsk_fold (most : Int) (E : List (Sg × Int)) (s : Sg) (u : Int) (g1 g2 g3 g4 : FuncId) (f1 f2 f3 f4 c1 c2 c3 c4 : Array Value) :
    askF [⟨g1, f1, c1, 1, false⟩, ⟨g2, f2, c2, 2, !(nmOk s) || farB u⟩, ⟨g3, f3, c3, 150, hasB E s⟩, ⟨g4, f4, c4, 230, decide ((E.length : Int) ≥ most)⟩] = seeE most E s u := by
  unfold askF seeE
  cases h1 : (!(nmOk s) || farB u) with
  | true => simp [h1]
  | false =>
    cases h2 : hasB E s with
    | true => simp [h1, h2]
    | false =>
      by_cases h3 : most ≤ (E.length : Int)
      · simp [h1, h2, h3]
      · simp [h1, h2, h3]

set_option maxHeartbeats 2000000 in
set_option maxRecDepth 100000 in
theorem see_c {T M : Nat} {most : Int} {E : List (Sg × Int)} (s : Sg) (hs : s.wf) (u : Int) (w : World) (h : Tab w T M most E) :
    Calls Try.prog 9 #[.pointer (some ⟨T, 0, none⟩), sgV s, .int .u64 u] w fun en w' => en = .returned (.int .i64 (seeE most E s u)) ∧ Tab w' T M most (seeL most E s u) ∧ But (· = M) w w' := by
  have hmf : ∀ (fn : Fn) (first cap : Array Value) (w : World), (Instr.makeFunc fn first cap).run Try.prog w = .ok (.func fn first cap) w := fun _ _ _ _ => rfl
  obtain ⟨W0, hW0⟩ : ∃ W0, ((w.alloc (.cells #[.pointer (some ⟨T, 0, none⟩)] 25)).alloc (.cells (sgC s).toArray 38)).alloc (.cells #[.int .u64 u] 23) = W0 := ⟨_, rfl⟩
  have hb0 : Below w.heap.size w W0 := by rw [← hW0]; exact ((below_alloc w _).alloc (by simp) _).alloc (by simp; omega) _
  have hsz0 : W0.heap.size = w.heap.size + 3 := by rw [← hW0]; simp
  have C0 : RowAt W0 w.heap.size #[.pointer (some ⟨T, 0, none⟩)] 25 := by rw [← hW0]; exact ((RowAt.new w _ _).alloc _).alloc _
  have A0 : RowAt W0 (w.heap.size + 1) (sgC s).toArray 38 := by
    rw [← hW0]; have := (RowAt.new (w.alloc (.cells #[.pointer (some ⟨T, 0, none⟩)] 25)) (sgC s).toArray 38).alloc (.cells #[.int .u64 u] 23); rwa [World.size_alloc] at this
  have U0 : RowAt W0 (w.heap.size + 1 + 1) #[.int .u64 u] 23 := by
    rw [← hW0]; have := RowAt.new ((w.alloc (.cells #[.pointer (some ⟨T, 0, none⟩)] 25)).alloc (.cells (sgC s).toArray 38)) #[.int .u64 u] 23; rwa [World.size_alloc, World.size_alloc] at this
  have h0 := h.below hb0
  have HQ := Lib.hid (fun (W1 : World) (hb1 : Below W0.heap.size W0 W1) => (show ∀ a ∈ [(⟨23, #[.pointer (some ⟨T, 0, none⟩)], #[], 1, false⟩ : Qn), ⟨24, #[], #[.pointer (some ⟨w.heap.size + 1, 0, none⟩), .pointer (some ⟨w.heap.size + 1 + 1, 0, none⟩)], 2, !(nmOk s) || farB u⟩,
      ⟨26, #[], #[.pointer (some ⟨w.heap.size, 0, none⟩), .pointer (some ⟨w.heap.size + 1, 0, none⟩)], 150, hasB E s⟩, ⟨27, #[], #[.pointer (some ⟨w.heap.size, 0, none⟩)], 230, decide ((E.length : Int) ≥ most)⟩],
      Calls Try.prog a.g (a.fst ++ a.cap) W1 (Ret (.bool a.b) W1) from fun a ha => by
    simp only [List.mem_cons, List.mem_nil_iff, or_false] at ha
    rcases ha with rfl | rfl | rfl | rfl
    · exact seNone_c W1 (h0.below hb1)
    · exact see1_c s u W1 (A0.below hb1) (U0.below hb1)
    · exact see2_c s hs W1 (h0.below hb1) (C0.below hb1) (A0.below hb1)
    · exact see3_c W1 (h0.below hb1) (C0.below hb1)))
  have HG := Lib.hid (show ∀ a ∈ [(⟨23, #[.pointer (some ⟨T, 0, none⟩)], #[], 1, false⟩ : Qn), ⟨24, #[], #[.pointer (some ⟨w.heap.size + 1, 0, none⟩), .pointer (some ⟨w.heap.size + 1 + 1, 0, none⟩)], 2, !(nmOk s) || farB u⟩,
      ⟨26, #[], #[.pointer (some ⟨w.heap.size, 0, none⟩), .pointer (some ⟨w.heap.size + 1, 0, none⟩)], 150, hasB E s⟩, ⟨27, #[], #[.pointer (some ⟨w.heap.size, 0, none⟩)], 230, decide ((E.length : Int) ≥ most)⟩], Enters Try.prog a.g from fun a ha => by
    simp only [List.mem_cons, List.mem_nil_iff, or_false] at ha
    rcases ha with rfl | rfl | rfl | rfl
    · exact seEnters_none
    · exact seEnters_1
    · exact seEnters_2
    · exact seEnters_3)
  have hF := seAsk_fold most E s u 23 24 26 27 #[.pointer (some ⟨T, 0, none⟩)] #[] #[] #[] #[] #[.pointer (some ⟨w.heap.size + 1, 0, none⟩), .pointer (some ⟨w.heap.size + 1 + 1, 0, none⟩)] #[.pointer (some ⟨w.heap.size, 0, none⟩), .pointer (some ⟨w.heap.size + 1, 0, none⟩)] #[.pointer (some ⟨w.heap.size, 0, none⟩)]
  have HF := Lib.hid hF
  clear hF
  have fC := C0.cell (i := 0) (v := .pointer (some ⟨T, 0, none⟩)) rfl
  obtain ⟨r, hr⟩ : ∃ r, seeE most E s u = r := ⟨_, rfl⟩
  have HR := Lib.hid hr
  rw [hr]
  rw [hr] at HF
  have HL := Lib.hid (show seeL most E s u = if r = 0 then E ++ [(s, u)] else E by unfold seeL; rw [hr])
  clear hr
  have hS := sl_lit W0 W0.heap.size rfl 2 4 [.func (.func 23) #[.pointer (some ⟨T, 0, none⟩)] #[], .int .i64 1, .func (.func 24) #[] #[.pointer (some ⟨w.heap.size + 1, 0, none⟩), .pointer (some ⟨w.heap.size + 1 + 1, 0, none⟩)], .int .i64 2,
    .func (.func 26) #[] #[.pointer (some ⟨w.heap.size, 0, none⟩), .pointer (some ⟨w.heap.size + 1, 0, none⟩)], .int .i64 150, .func (.func 27) #[] #[.pointer (some ⟨w.heap.size, 0, none⟩)], .int .i64 230] 69 rfl (by decide)
  have HA := Lib.hid (seAsked_c [(⟨23, #[.pointer (some ⟨T, 0, none⟩)], #[], 1, false⟩ : Qn), ⟨24, #[], #[.pointer (some ⟨w.heap.size + 1, 0, none⟩), .pointer (some ⟨w.heap.size + 1 + 1, 0, none⟩)], 2, !(nmOk s) || farB u⟩,
      ⟨26, #[], #[.pointer (some ⟨w.heap.size, 0, none⟩), .pointer (some ⟨w.heap.size + 1, 0, none⟩)], 150, hasB E s⟩, ⟨27, #[], #[.pointer (some ⟨w.heap.size, 0, none⟩)], 230, decide ((E.length : Int) ≥ most)⟩] _ 4 _ hS HG.out
      (fun a ha w1 hb1 => HQ.out w1 (below_up (below_alloc W0 _) hb1) a ha))
  rw [HF.out] at HA
  have HW := Lib.hid (below_up hb0 (below_alloc W0 (.cells [.func (.func 23) #[.pointer (some ⟨T, 0, none⟩)] #[], .int .i64 1, .func (.func 24) #[] #[.pointer (some ⟨w.heap.size + 1, 0, none⟩), .pointer (some ⟨w.heap.size + 1 + 1, 0, none⟩)], .int .i64 2,
    .func (.func 26) #[] #[.pointer (some ⟨w.heap.size, 0, none⟩), .pointer (some ⟨w.heap.size + 1, 0, none⟩)], .int .i64 150, .func (.func 27) #[] #[.pointer (some ⟨w.heap.size, 0, none⟩)], .int .i64 230].toArray 69)))
  have HB0 := Lib.hid (below_alloc W0 (.cells [.func (.func 23) #[.pointer (some ⟨T, 0, none⟩)] #[], .int .i64 1, .func (.func 24) #[] #[.pointer (some ⟨w.heap.size + 1, 0, none⟩), .pointer (some ⟨w.heap.size + 1 + 1, 0, none⟩)], .int .i64 2,
    .func (.func 26) #[] #[.pointer (some ⟨w.heap.size, 0, none⟩), .pointer (some ⟨w.heap.size + 1, 0, none⟩)], .int .i64 150, .func (.func 27) #[] #[.pointer (some ⟨w.heap.size, 0, none⟩)], .int .i64 230].toArray 69))
  have HSZ := Lib.hid hsz0
  clear HQ HG HF hS hb0 hsz0
  by_cases hr0 : r = 0
  · subst hr0
    have HOK := Lib.hid (seeE_ok HR.out)
    have HLE := Lib.hid (show seeL most E s u = E ++ [(s, u)] by rw [HL.out, if_pos rfl])
    clear HR HL
    go_enter Try.func9, Try.ntmps9
    go_wp2_with (go_at_call 22; refine HA.out.mono ?_; rintro en w1 ⟨rfl, hb1⟩)
    have hbA := below_up HW.out hb1
    have hb01 := below_up HB0.out hb1
    clear HA hb1
    have hML := h.map.lt
    refine wp_region_pt ((· = M)) (.q 0 (.q 1 (.q 2 (.q 3 (.q 4 (.q 5 (.c 6 .done))))))) (by kernel_rfl) (by kernel_rfl) (by kernel_rfl) (by decide) (fun _ _ d _ _ h => by cases d <;> exact h) (fun Wd hBd => ?_)
    try simp only [Act.put, List.getElem_toArray, List.getElem_cons_zero, List.getElem_cons_succ, List.setIfInBounds_toArray, List.set_cons_zero, List.set_cons_succ]
    have hbD := below_up hbA hBd
    have h1 := h.below hbD
    have fC := (C0.below (below_up hb01 hBd)).cell (i := 0) (v := .pointer (some ⟨T, 0, none⟩)) rfl
    have hA1 := A0.below (below_up hb01 hBd)
    have fU := (U0.below (below_up hb01 hBd)).cell (i := 0) (v := .int .u64 u) rfl
    have fM := h1.var.cell (i := 1) (v := .map (some M)) rfl
    obtain ⟨w7, hrun, hm7, hb7⟩ := sput h1.map hs HOK.out.2.2.1 u
    refine pt_q (v := ?_) rfl (by rfl) ?_ ?_
    rotate_left
    · intro w' hBw'
      have qL := hBw'.cell fC (by omega)
      first | (go_simp; done) | (go_simp; with_reducible rfl)
    try simp only [Act.put, List.getElem_toArray, List.getElem_cons_zero, List.getElem_cons_succ, List.setIfInBounds_toArray, List.set_cons_zero, List.set_cons_succ]
    refine pt_q (v := ?_) rfl (by rfl) ?_ ?_
    rotate_left
    · intro w' hBw'
      first | (go_simp; done) | (go_simp; with_reducible rfl)
    try simp only [Act.put, List.getElem_toArray, List.getElem_cons_zero, List.getElem_cons_succ, List.setIfInBounds_toArray, List.set_cons_zero, List.set_cons_succ]
    refine pt_q (v := ?_) rfl (by rfl) ?_ ?_
    rotate_left
    · intro w' hBw'
      first | (go_simp; done) | (go_simp; with_reducible rfl)
    try simp only [Act.put, List.getElem_toArray, List.getElem_cons_zero, List.getElem_cons_succ, List.setIfInBounds_toArray, List.set_cons_zero, List.set_cons_succ]
    refine pt_q (v := ?_) rfl (by rfl) ?_ ?_
    rotate_left
    · intro w' hBw'
      have qL := hBw'.cell fM (fun e => h1.ne e)
      first | (go_simp; done) | (go_simp; with_reducible rfl)
    try simp only [Act.put, List.getElem_toArray, List.getElem_cons_zero, List.getElem_cons_succ, List.setIfInBounds_toArray, List.set_cons_zero, List.set_cons_succ]
    refine pt_load rfl (by rfl) 38 (.tmp 4) rfl (w.heap.size + 1) 0 rfl (sgC s) _ hA1.range (by omega) Try.underlying38 rfl (by kernel_rfl) ?_
    try simp only [Act.put, List.getElem_toArray, List.getElem_cons_zero, List.getElem_cons_succ, List.setIfInBounds_toArray, List.set_cons_zero, List.set_cons_succ]
    refine pt_q (v := ?_) rfl (by rfl) ?_ ?_
    rotate_left
    · intro w' hBw'
      have qL := hBw'.cell fU (by omega)
      first | (go_simp; done) | (go_simp; with_reducible rfl)
    try simp only [Act.put, List.getElem_toArray, List.getElem_cons_zero, List.getElem_cons_succ, List.setIfInBounds_toArray, List.set_cons_zero, List.set_cons_succ]
    refine pt_c ?_
    refine pt_put rfl (by rfl) 30 (.tmp 24) (.tmp 25) (.tmp 26) rfl rfl rfl rfl hrun hb7 ?_
    try simp only [Act.put, List.getElem_toArray, List.getElem_cons_zero, List.getElem_cons_succ, List.setIfInBounds_toArray, List.set_cons_zero, List.set_cons_succ]
    refine pt_done ?_
    go_wp2
    go_ret
    rw [HLE.out]
    refine ⟨rfl, ⟨(hb7.same T h1.var.lt h1.ne).trans h1.var, hm7, h1.ne, ?_, ?_, h1.most⟩, (But.of_below hbD).trans hb7⟩
    · intro p hp
      rcases List.mem_append.1 hp with hp | hp
      · exact h.ok p hp
      · obtain rfl := List.mem_singleton.1 hp; exact hs
    · have := HOK.out.2.2.2; have := h.most.2; rw [List.length_append, List.length_singleton]; omega
  · have hr1 : (r == 0) = false := by simp [hr0]
    have HLE := Lib.hid (show seeL most E s u = E by rw [HL.out, if_neg hr0])
    clear HR HL
    go_enter Try.func9, Try.ntmps9
    go_wp2_with (go_at_call 22; refine HA.out.mono ?_; rintro en w1 ⟨rfl, hb1⟩)
    go_ret
    have hbA := below_up HW.out hb1
    rw [HLE.out]
    exact ⟨rfl, h.below hbA, But.of_below hbA⟩
end Go.Proofs.Ytfoncaamhleckaa
