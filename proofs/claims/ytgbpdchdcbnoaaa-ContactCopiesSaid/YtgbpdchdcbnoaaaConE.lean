/-
  Contracts of contact.Same, Copy, At, Add.
-/
import Derived.Test.YtgbpdchdcbnoaaaConD
import Derived.Test.YtgbpdchdcbnoaaaClockF
namespace Go.Proofs.Ytgbpdchdcbnoaaa
open Go.RowKit Vol
set_option linter.unusedSimpArgs false
set_option linter.unusedVariables false

theorem ct_take (l : List Ct) (k : Nat) : (l.flatMap ctC).take (k * 5) = (l.take k).flatMap ctC := rec_take (cells := ctC) (sz := 5) (fun _ => rfl) l k
theorem ct_drop : ∀ (l : List Ct) (k : Nat), (l.flatMap ctC).drop (k * 5) = (l.drop k).flatMap ctC
  | [], k => by simp
  | x :: l, 0 => by simp
  | x :: l, k + 1 => by
    rw [List.flatMap_cons, show (k + 1) * 5 = (ctC x).length + k * 5 by show _ = 5 + k * 5; omega, List.drop_append, List.drop_of_length_le (by omega), List.nil_append, show (ctC x).length + k * 5 - (ctC x).length = k * 5 by omega, ct_drop l k, List.drop_succ_cons]

set_option maxRecDepth 100000 in
theorem pSame_c {B1 B2 : Nat} {v1 v2 : Value} {L1 L2 : List Ct} (w : World) (h1 : PlanAt w B1 v1 L1) (h2 : PlanAt w B2 v2 L2) :
    Calls Try.prog 16 #[.pointer (some ⟨B1, 0, none⟩), .pointer (some ⟨B2, 0, none⟩)] w (Ret (.bool (decide (L1 = L2))) w) := by
  have T1 := Lib.hid True.intro
  go_enter Try.func16, Try.ntmps16
  go_wp2_with (go_at_call 30; first
    | (have T2 := T1; clear T2 T1; refine (pNone_c _ h1).mono ?_; rintro en w1 ⟨rfl, rfl⟩)
    | (refine (pNone_c _ h2).mono ?_; rintro en w2 ⟨rfl, rfl⟩))
  refine wp_region_pi [(0, false), (1, false), (2, false), (3, false), (4, false), (5, false), (6, false), (7, false), (8, true), (9, false)] (by kernel_rfl) (by kernel_rfl) (by kernel_rfl) rfl (fun _ _ d _ _ h => by cases d <;> exact h) (fun Wd hBd => ?_)
  try simp only [Act.put, List.getElem_toArray, List.getElem_cons_zero, List.getElem_cons_succ, List.setIfInBounds_toArray, List.set_cons_zero, List.set_cons_succ]
  have h3 := h1.below hBd
  have h4 := h2.below hBd
  have c3 : ∀ w', Below Wd.heap.size Wd w' → w'.cell? ⟨B1, 0, none⟩ = some v1 := fun w' h => cell_up h (h3.var.cell (i := 0) rfl)
  have c4 : ∀ w', Below Wd.heap.size Wd w' → w'.cell? ⟨B2, 0, none⟩ = some v2 := fun w' h => cell_up h (h4.var.cell (i := 0) rfl)
  refine pi_q (v := ?_) rfl (by rfl) ?_ ?_
  rotate_left
  · intro w' hBw'
    first | (go_simp; done) | (go_simp; with_reducible rfl)
  try simp only [Act.put, List.getElem_toArray, List.getElem_cons_zero, List.getElem_cons_succ, List.setIfInBounds_toArray, List.set_cons_zero, List.set_cons_succ]
  refine pi_q (v := ?_) rfl (by rfl) ?_ ?_
  rotate_left
  · intro w' hBw'
    first | (go_simp; done) | (go_simp; with_reducible rfl)
  try simp only [Act.put, List.getElem_toArray, List.getElem_cons_zero, List.getElem_cons_succ, List.setIfInBounds_toArray, List.set_cons_zero, List.set_cons_succ]
  refine pi_q (v := ?_) rfl (by rfl) ?_ ?_
  rotate_left
  · intro w' hBw'
    first | (go_simp; done) | (go_simp; with_reducible rfl)
  try simp only [Act.put, List.getElem_toArray, List.getElem_cons_zero, List.getElem_cons_succ, List.setIfInBounds_toArray, List.set_cons_zero, List.set_cons_succ]
  refine pi_q (v := ?_) rfl (by rfl) ?_ ?_
  rotate_left
  · intro w' hBw'
    first | (go_simp; done) | (go_simp; with_reducible rfl)
  try simp only [Act.put, List.getElem_toArray, List.getElem_cons_zero, List.getElem_cons_succ, List.setIfInBounds_toArray, List.set_cons_zero, List.set_cons_succ]
  refine pi_q (v := ?_) rfl (by rfl) ?_ ?_
  rotate_left
  · intro w' hBw'
    first | (go_simp; done) | (go_simp; with_reducible rfl)
  try simp only [Act.put, List.getElem_toArray, List.getElem_cons_zero, List.getElem_cons_succ, List.setIfInBounds_toArray, List.set_cons_zero, List.set_cons_succ]
  refine pi_q (v := ?_) rfl (by rfl) ?_ ?_
  rotate_left
  · intro w' hBw'
    first | (go_simp; done) | (go_simp; with_reducible rfl)
  try simp only [Act.put, List.getElem_toArray, List.getElem_cons_zero, List.getElem_cons_succ, List.setIfInBounds_toArray, List.set_cons_zero, List.set_cons_succ]
  refine pi_q (v := ?_) rfl (by rfl) ?_ ?_
  rotate_left
  · intro w' hBw'
    first | (go_simp; done) | (go_simp; with_reducible rfl)
  try simp only [Act.put, List.getElem_toArray, List.getElem_cons_zero, List.getElem_cons_succ, List.setIfInBounds_toArray, List.set_cons_zero, List.set_cons_succ]
  refine pi_q (v := ?_) rfl (by rfl) ?_ ?_
  rotate_left
  · intro w' hBw'
    first | (go_simp; done) | (go_simp; with_reducible rfl)
  try simp only [Act.put, List.getElem_toArray, List.getElem_cons_zero, List.getElem_cons_succ, List.setIfInBounds_toArray, List.set_cons_zero, List.set_cons_succ]
  refine pi_c rfl (by rfl) (fun K hK => ?_)
  go_simp
  refine (equalL_c L1 L2 v1 v2 _ _ _ h3.sl h4.sl).mono ?_
  rintro en w5 ⟨rfl, hb5⟩
  go_wp2_with fail
  refine hK.out _ _ hb5 ?_
  clear hK K
  try simp only [Act.put, List.getElem_toArray, List.getElem_cons_zero, List.getElem_cons_succ, List.setIfInBounds_toArray, List.set_cons_zero, List.set_cons_succ]
  refine pi_q (v := ?_) rfl (by rfl) ?_ ?_
  rotate_left
  · intro w' hBw'
    first | (go_simp; done) | (go_simp; with_reducible rfl)
  try simp only [Act.put, List.getElem_toArray, List.getElem_cons_zero, List.getElem_cons_succ, List.setIfInBounds_toArray, List.set_cons_zero, List.set_cons_succ]
  refine pi_nil ?_
  go_wp2
  go_ret
  exact ⟨rfl, below_up hBd hb5⟩

set_option maxRecDepth 100000 in
theorem pCopy_c {B : Nat} {v : Value} {L : List Ct} (w : World) (h : PlanAt w B v L) (hL : L.length ≤ 100000) :
    Calls Try.prog 22 #[.pointer (some ⟨B, 0, none⟩)] w fun en w' => ∃ B' v', en = .returned (.pointer (some ⟨B', 0, none⟩)) ∧ PlanAt w' B' v' L ∧ w.heap.size ≤ B' ∧ (L.length = 0 ∨ ∀ k, v'.ownBlock = some k → w.heap.size ≤ k) ∧ Below w.heap.size w w' := by
  have hc := h.var.cell (i := 0) rfl
  go_enter Try.func22, Try.ntmps22
  go_wp2_with (first
    | (go_at_call 30; refine (pNone_c _ h).mono ?_; rintro en w1 ⟨rfl, rfl⟩)
    | (go_at_call 54; refine (cloneL_c L v _ _ h.sl hL).mono ?_; rintro en w1 ⟨v1, rfl, hown, hb⟩; obtain ⟨a1, c1, rfl⟩ := own_slice hown))
  go_ret
  have hsz := hb.size
  refine ⟨w1.heap.size, _, rfl, ⟨RowAt.new _ _ _, (Sl.of_own hown).up (below_alloc _ _), ?_⟩, hsz, ?_, hb.alloc hsz _⟩
  · exact .inr fun k hk => by have := (own_of_some hown hk).2; omega
  · exact .inr fun k hk => (own_of_some hown hk).1

/-- At: the contact, and whether there is one. -/
def Vol.atR (L : List Ct) (f t at_ : Int) : Option Ct := L.find? (btwB f t fun x y => Clk.inB x y at_)
theorem Vol.atF_none {L : List Ct} {f t at_ : Int} (h : atR L f t at_ = none) : atF L f t at_ = -1 := by
  refine idx_none fun j hj => ?_
  have := List.find?_eq_none.1 h L[j] (List.getElem_mem hj)
  simpa using this
theorem Vol.atF_some {L : List Ct} {f t at_ : Int} {c : Ct} (h : atR L f t at_ = some c) : ∃ k : Nat, ∃ hk : k < L.length, atF L f t at_ = k ∧ L[k] = c := by
  obtain ⟨hp, k, hk, rfl, hno⟩ := List.find?_eq_some_iff_getElem.1 h
  exact ⟨k, hk, idx_some hk (fun j hj hj' => by have := hno j hj; simpa using this) hp, rfl⟩

def Vol.zct0 : Ct := ⟨0, 0, 0, 0, 0⟩
set_option maxHeartbeats 1000000 in
set_option maxRecDepth 100000 in
theorem pAt_c {B : Nat} {v : Value} {L : List Ct} (f t at_ : Int) (w : World) (h : PlanAt w B v L) :
    Calls Try.prog 18 #[.pointer (some ⟨B, 0, none⟩), .int .u32 f, .int .u32 t, .int .u64 at_] w (Ret (.tuple #[ctV ((atR L f t at_).getD zct0), .bool (atR L f t at_).isSome]) w) := by
  have hB0 := below_alloc w (.cells (ctC zct0).toArray 27)
  have Z0 := RowAt.new w (ctC zct0).toArray 27
  have h1 := h.below hB0
  cases ha : atR L f t at_ with
  | none =>
    have hat := atF_none ha
    go_enter Try.func18, Try.ntmps18
    go_wp2_with (go_at_call 44; refine (pat_c f t at_ _ h1).mono ?_; rw [hat]; rintro en w1 ⟨rfl, hb⟩; have Z1 := Z0.below hb; have z0 := Z1.cell (i := 0) (v := .int .u32 0) rfl; have z1 := Z1.cell (i := 1) (v := .int .u32 0) rfl; have z2 := Z1.cell (i := 2) (v := .int .u64 0) rfl; have z3 := Z1.cell (i := 3) (v := .int .u64 0) rfl; have z4 := Z1.cell (i := 4) (v := .int .u64 0) rfl; have f0 := Z1.fz 0; have f1 := Z1.fz 1; have f2 := Z1.fz 2; have f3 := Z1.fz 3; have f4 := Z1.fz 4)
    exact bodyPost_ret (v := .tuple #[ctV zct0, .bool false]) (by simp [results, Try.results18, go_sem, z0, z1, z2, z3, z4, zct0]) rfl ⟨rfl, (((((below_up hB0 hb).setCell (Nat.le_refl _) _).setCell (Nat.le_refl _) _).setCell (Nat.le_refl _) _).setCell (Nat.le_refl _) _).setCell (Nat.le_refl _) _⟩
  | some c =>
    obtain ⟨k, hk, hat, hkc⟩ := atF_some ha
    obtain ⟨a, cp, hv⟩ := h.sl.len
    subst hv
    have hkL : (k : Int) < (L.length : Int) := by omega
    go_enter Try.func18, Try.ntmps18
    go_wp2_with (first
      | (go_at_call 44; refine (pat_c f t at_ _ h1).mono ?_; rw [hat]; rintro en w1 ⟨rfl, hb⟩; have h2 := h1.below hb; have hc := h2.var.cell (i := 0) rfl; obtain ⟨b, off, rfl, hr⟩ := h2.sl.rec_at (cells := ctC) (sz := 5) (fun _ => rfl) hk hk; rw [hkc] at hr; have Z1 := Z0.below hb; have z0 := Z1.cell (i := 0) (v := .int .u32 0) rfl; have z1 := Z1.cell (i := 1) (v := .int .u32 0) rfl; have z2 := Z1.cell (i := 2) (v := .int .u64 0) rfl; have z3 := Z1.cell (i := 3) (v := .int .u64 0) rfl; have z4 := Z1.cell (i := 4) (v := .int .u64 0) rfl; have f0 := Z1.fz 0; have f1 := Z1.fz 1; have f2 := Z1.fz 2; have f3 := Z1.fz 3; have f4 := Z1.fz 4)
      | (refine wpList_load_mid rfl 27 (.tmp 24) rfl b (off + k * 5) rfl (ctC c) _ hr Try.underlying27 rfl (by kernel_rfl) ?_))
    exact bodyPost_ret (v := .tuple #[ctV c, .bool true]) (by simp [results, Try.results18, go_sem, z0, z1, z2, z3, z4]) rfl ⟨rfl, (((((below_up hB0 hb).setCell (Nat.le_refl _) _).setCell (Nat.le_refl _) _).setCell (Nat.le_refl _) _).setCell (Nat.le_refl _) _).setCell (Nat.le_refl _) _⟩

namespace Vol
def clashB (L : List Ct) (c : Ct) : Bool := L.any (btwB c.from_ c.to fun a b => Clk.bothB a b c.a c.b)
def insF (L : List Ct) (c : Ct) : List Ct := L.take (posF L c) ++ c :: L.drop (posF L c)
def addF (L : List Ct) (c : Ct) : Int × List Ct := if okB c = true then if clashB L c = true then (270, L) else if 256 ≤ L.length then (271, L) else (0, insF L c) else (2, L)
end Vol
theorem cadd1_c (bc : Nat) (c : Ct) (hw : c.Wf) (w : World) (h : RowAt w bc (ctC c).toArray 27) : Calls Try.prog 31 #[.pointer (some ⟨bc, 0, none⟩)] w (Ret (.bool (!okB c)) w) := by
  have hr := h.range
  have hc := fun w => ctCheckG_c c hw w
  cases hok : okB c with
  | true =>
    rw [hok] at hc
    go_enter Try.func31, Try.ntmps31
    go_wp2_with (first
      | (refine wpList_load_mid rfl 27 (.tmp 0) rfl bc 0 rfl (ctC c) _ hr Try.underlying27 rfl (by kernel_rfl) ?_)
      | (go_at_call 8; refine (hc _).mono ?_; rintro en w1 ⟨rfl, hb⟩))
    go_ret
    exact ⟨rfl, hb⟩
  | false =>
    rw [hok] at hc
    go_enter Try.func31, Try.ntmps31
    go_wp2_with (first
      | (refine wpList_load_mid rfl 27 (.tmp 0) rfl bc 0 rfl (ctC c) _ hr Try.underlying27 rfl (by kernel_rfl) ?_)
      | (go_at_call 8; refine (hc _).mono ?_; rintro en w1 ⟨rfl, hb⟩))
    go_ret
    exact ⟨rfl, hb⟩
theorem enters_add21 : Enters Try.prog 34 := enters_of Try.func34 (by kernel_rfl) rfl
set_option maxRecDepth 100000 in
theorem cadd21_c (x y : Int) (bc : Nat) (c : Ct) (w : World) (h : RowAt w bc (ctC c).toArray 27) : Calls Try.prog 34 #[.agg #[.int .u64 x, .int .u64 y], .pointer (some ⟨bc, 0, none⟩)] w (Ret (.bool (Clk.bothB x y c.a c.b)) w) := by
  have hB := below_alloc w (.cells #[.int .u64 x, .int .u64 y] 25)
  have h1 := h.below hB
  have c2 := h1.cell (i := 2) (v := .int .u64 c.a) rfl
  have c3 := h1.cell (i := 3) (v := .int .u64 c.b) rfl
  have hbo := both_c x y c.a c.b
  obtain ⟨z, hz⟩ : ∃ z, z = Clk.bothB x y c.a c.b := ⟨_, rfl⟩
  obtain ⟨p, q, hf⟩ : ∃ p q : Int, Clk.bothF x y c.a c.b = .agg #[.int .u64 p, .int .u64 q] := by unfold Clk.bothF; split <;> exact ⟨_, _, rfl⟩
  rw [← hz] at hbo ⊢
  rw [hf] at hbo
  clear hz hf
  go_enter Try.func34, Try.ntmps34
  go_wp2_with (go_at_call 35; refine (hbo _).mono ?_; rintro en w1 ⟨rfl, hb⟩)
  go_ret
  exact ⟨rfl, (below_up hB hb).alloc (below_up hB hb).size _⟩
set_option maxHeartbeats 1000000 in
set_option maxRecDepth 100000 in
theorem cadd2_c {B : Nat} {v : Value} {L : List Ct} (bp bc : Nat) (c : Ct) (w : World) (hp : w.cell? ⟨bp, 0, none⟩ = some (.pointer (some ⟨B, 0, none⟩))) (h : RowAt w bc (ctC c).toArray 27) (hP : PlanAt w B v L) :
    Calls Try.prog 32 #[.pointer (some ⟨bp, 0, none⟩), .pointer (some ⟨bc, 0, none⟩)] w (Ret (.bool (clashB L c)) w) := by
  have hmf : ∀ (fn : Fn) (first cap : Array Value) (w : World), (Instr.makeFunc fn first cap).run Try.prog w = .ok (.func fn first cap) w := fun _ _ _ _ => rfl
  obtain ⟨z, hz⟩ : ∃ z, z = idx (btwB c.from_ c.to fun a b => Clk.bothB a b c.a c.b) L := ⟨_, rfl⟩
  have hcl : clashB L c = decide (0 ≤ z) := by rw [hz]; exact (idx_any _ _).symm
  rw [hcl]
  go_enter Try.func32, Try.ntmps32
  go_wp2
  refine wp_region_pi [(0, false), (1, false), (2, false), (3, false), (4, false), (5, false), (6, false), (7, false), (8, false), (9, true), (10, false), (11, false)] (by kernel_rfl) (by kernel_rfl) (by kernel_rfl) rfl (fun _ _ d _ _ h => by cases d <;> exact h) (fun Wd hBd => ?_)
  try simp only [Act.put, List.getElem_toArray, List.getElem_cons_zero, List.getElem_cons_succ, List.setIfInBounds_toArray, List.set_cons_zero, List.set_cons_succ]
  have hP1 := hP.below hBd
  have h1 := h.below hBd
  have cp : ∀ w', Below Wd.heap.size Wd w' → w'.cell? ⟨bp, 0, none⟩ = some (.pointer (some ⟨B, 0, none⟩)) := fun w' hb => cell_up hb (cell_up hBd hp)
  have cv : ∀ w', Below Wd.heap.size Wd w' → w'.cell? ⟨B, 0, none⟩ = some v := fun w' hb => cell_up hb (hP1.var.cell (i := 0) rfl)
  have c0 : ∀ w', Below Wd.heap.size Wd w' → w'.cell? ⟨bc, 0, none⟩ = some (.int .u32 c.from_) := fun w' hb => cell_up hb (h1.cell (i := 0) rfl)
  have c1 : ∀ w', Below Wd.heap.size Wd w' → w'.cell? ⟨bc, 1, none⟩ = some (.int .u32 c.to) := fun w' hb => cell_up hb (h1.cell (i := 1) rfl)
  refine pi_q (v := ?_) rfl (by rfl) ?_ ?_
  rotate_left
  · intro w' hBw'
    first | (go_simp; done) | (go_simp; with_reducible rfl)
  try simp only [Act.put, List.getElem_toArray, List.getElem_cons_zero, List.getElem_cons_succ, List.setIfInBounds_toArray, List.set_cons_zero, List.set_cons_succ]
  refine pi_q (v := ?_) rfl (by rfl) ?_ ?_
  rotate_left
  · intro w' hBw'
    first | (go_simp; done) | (go_simp; with_reducible rfl)
  try simp only [Act.put, List.getElem_toArray, List.getElem_cons_zero, List.getElem_cons_succ, List.setIfInBounds_toArray, List.set_cons_zero, List.set_cons_succ]
  refine pi_q (v := ?_) rfl (by rfl) ?_ ?_
  rotate_left
  · intro w' hBw'
    first | (go_simp; done) | (go_simp; with_reducible rfl)
  try simp only [Act.put, List.getElem_toArray, List.getElem_cons_zero, List.getElem_cons_succ, List.setIfInBounds_toArray, List.set_cons_zero, List.set_cons_succ]
  refine pi_q (v := ?_) rfl (by rfl) ?_ ?_
  rotate_left
  · intro w' hBw'
    first | (go_simp; done) | (go_simp; with_reducible rfl)
  try simp only [Act.put, List.getElem_toArray, List.getElem_cons_zero, List.getElem_cons_succ, List.setIfInBounds_toArray, List.set_cons_zero, List.set_cons_succ]
  refine pi_q (v := ?_) rfl (by rfl) ?_ ?_
  rotate_left
  · intro w' hBw'
    first | (go_simp; done) | (go_simp; with_reducible rfl)
  try simp only [Act.put, List.getElem_toArray, List.getElem_cons_zero, List.getElem_cons_succ, List.setIfInBounds_toArray, List.set_cons_zero, List.set_cons_succ]
  refine pi_q (v := ?_) rfl (by rfl) ?_ ?_
  rotate_left
  · intro w' hBw'
    first | (go_simp; done) | (go_simp; with_reducible rfl)
  try simp only [Act.put, List.getElem_toArray, List.getElem_cons_zero, List.getElem_cons_succ, List.setIfInBounds_toArray, List.set_cons_zero, List.set_cons_succ]
  refine pi_q (v := ?_) rfl (by rfl) ?_ ?_
  rotate_left
  · intro w' hBw'
    first | (go_simp; done) | (go_simp; with_reducible rfl)
  try simp only [Act.put, List.getElem_toArray, List.getElem_cons_zero, List.getElem_cons_succ, List.setIfInBounds_toArray, List.set_cons_zero, List.set_cons_succ]
  refine pi_q (v := ?_) rfl (by rfl) ?_ ?_
  rotate_left
  · intro w' hBw'
    first | (go_simp; done) | (go_simp; with_reducible rfl)
  try simp only [Act.put, List.getElem_toArray, List.getElem_cons_zero, List.getElem_cons_succ, List.setIfInBounds_toArray, List.set_cons_zero, List.set_cons_succ]
  refine pi_q (v := ?_) rfl (by rfl) ?_ ?_
  rotate_left
  · intro w' hBw'
    first | (go_simp; done) | (go_simp; with_reducible rfl)
  try simp only [Act.put, List.getElem_toArray, List.getElem_cons_zero, List.getElem_cons_succ, List.setIfInBounds_toArray, List.set_cons_zero, List.set_cons_succ]
  refine pi_c rfl (by rfl) (fun K hK => ?_)
  go_simp
  refine (between_c L v _ c.from_ c.to _ enters_add21 #[.pointer (some ⟨bc, 0, none⟩)] (fun a b => Clk.bothB a b c.a c.b) _ hP1.sl (fun x hx w1 hb => Calls.cast rfl (cadd21_c x.a x.b bc c w1 (h1.below hb)))).mono ?_
  rw [← hz]
  rintro en w5 ⟨rfl, hb5⟩
  go_wp2_with fail
  refine hK.out _ _ hb5 ?_
  clear hK K
  try simp only [Act.put, List.getElem_toArray, List.getElem_cons_zero, List.getElem_cons_succ, List.setIfInBounds_toArray, List.set_cons_zero, List.set_cons_succ]
  refine pi_q (v := ?_) rfl (by rfl) ?_ ?_
  rotate_left
  · intro w' hBw'
    first | (go_simp; done) | (go_simp; with_reducible rfl)
  try simp only [Act.put, List.getElem_toArray, List.getElem_cons_zero, List.getElem_cons_succ, List.setIfInBounds_toArray, List.set_cons_zero, List.set_cons_succ]
  refine pi_q (v := ?_) rfl (by rfl) ?_ ?_
  rotate_left
  · intro w' hBw'
    first | (go_simp; done) | (go_simp; with_reducible rfl)
  try simp only [Act.put, List.getElem_toArray, List.getElem_cons_zero, List.getElem_cons_succ, List.setIfInBounds_toArray, List.set_cons_zero, List.set_cons_succ]
  refine pi_nil ?_
  go_wp2
  go_ret
  exact ⟨by subst hz; rfl, below_up hBd hb5⟩
set_option maxRecDepth 100000 in
theorem cadd3_c {B : Nat} {v : Value} {L : List Ct} (bp : Nat) (w : World) (hp : w.cell? ⟨bp, 0, none⟩ = some (.pointer (some ⟨B, 0, none⟩))) (hP : PlanAt w B v L) :
    Calls Try.prog 36 #[.pointer (some ⟨bp, 0, none⟩)] w (Ret (.bool (decide (256 ≤ L.length))) w) := by
  have hc := hP.var.cell (i := 0) rfl
  go_enter Try.func36, Try.ntmps36
  go_wp2_with (go_at_call 37; refine (lLen_c v _ _ _ hP.sl).mono ?_; rintro en w1 ⟨rfl, rfl⟩)
  go_ret
  exact ⟨retB (by simp <;> omega), Below.refl _ _⟩
theorem enters_none : Enters Try.prog 30 := enters_of Try.func30 (by kernel_rfl) rfl
theorem enters_add1 : Enters Try.prog 31 := enters_of Try.func31 (by kernel_rfl) rfl
theorem enters_add2 : Enters Try.prog 32 := enters_of Try.func32 (by kernel_rfl) rfl
theorem enters_add3 : Enters Try.prog 36 := enters_of Try.func36 (by kernel_rfl) rfl
end Go.Proofs.Ytgbpdchdcbnoaaa
