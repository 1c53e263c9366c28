/-
  The contracts of Same and of Prune.
-/
import Derived.Test.YtfoncaamhleckaaSeE
namespace Go.Proofs.Ytfoncaamhleckaa
open Go.RowKit Go.Maps Trc Sn
set_option linter.unusedSimpArgs false
set_option linter.unusedVariables false

theorem bd_eq (m1 m2 : Int) (w : World) : (binOp .eql 64 (.agg #[.int .i64 m1]) (.agg #[.int .i64 m2])).run Try.prog w = .ok (.bool (decide (m1 = m2))) w := by
  by_cases h : m1 = m2
  · subst h; simp [go_sem]
  · simp [go_sem, h]
set_option maxHeartbeats 1000000 in
set_option maxRecDepth 100000 in
theorem seSame_c {T1 M1 T2 M2 : Nat} {m1 m2 : Int} {E1 E2 : List (Sg × Int)} (w : World) (h1 : Tab w T1 M1 m1 E1) (h2 : Tab w T2 M2 m2 E2) :
    Calls Try.prog 10 #[.pointer (some ⟨T1, 0, none⟩), .pointer (some ⟨T2, 0, none⟩)] w (Ret (.bool (decide (m1 = m2) && eqB E1 E2)) w) := by
  have hq := bd_eq m1 m2
  have HO := Lib.hid h1.ok
  have HB := Lib.hid (Below.refl w.heap.size w)
  obtain ⟨r, hr⟩ : ∃ r, (decide (m1 = m2) && eqB E1 E2) = r := ⟨_, rfl⟩
  rw [hr]
  have HR := Lib.hid hr
  clear hr
  by_cases hm : m1 = m2
  · have HM := Lib.hid hm
    rw [decide_eq_true hm] at hq
    clear hm
    go_enter Try.func10, Try.ntmps10
    go_wp2_with (go_at_call 23; first
      | ((with_reducible refine (seNone_c _ h1).mono ?_); rintro en w1 ⟨rfl, hb⟩; replace h2 := h2.below hb; replace h1 := h1.below hb; replace HB := Lib.hid (below_up HB.out hb); clear hb)
      | ((with_reducible refine (seNone_c _ h2).mono ?_); rintro en w2 ⟨rfl, hb2⟩; replace h2 := h2.below hb2; replace h1 := h1.below hb2; replace HB := Lib.hid (below_up HB.out hb2); clear hb2))
    refine wp_region_pt (fun _ => False) (.q 0 (.q 1 (.q 2 (.q 3 (.q 4 (.q 5 (.q 6 (.q 7 (.q 8 (.q 9 (.q 10 (.q 11 (.q 12 (.q 13 (.q 14 (.q 15 (.q 16 (.q 17 (.c 18 (.q 19 (.q 20 .done))))))))))))))))))))) (by kernel_rfl) (by kernel_rfl) (by kernel_rfl) (by decide) (fun _ _ d _ _ h => by cases d <;> exact h) (fun Wd hBd => ?_)
    try simp only [Act.put, List.getElem_toArray, List.getElem_cons_zero, List.getElem_cons_succ, List.setIfInBounds_toArray, List.set_cons_zero, List.set_cons_succ]
    have h3 := h1.below hBd
    have h4 := h2.below hBd
    have c3 := h3.var.cell (i := 1) (v := .map (some M1)) rfl
    have c4 := h4.var.cell (i := 1) (v := .map (some M2)) rfl
    have b3 : Wd.rangeAt T1 0 [.int .i64 m1] := fun j v hj => by (match j, hj with | 0, hj => exact h3.var.cell (i := 0) hj | j + 1, hj => simp at hj)
    have b4 : Wd.rangeAt T2 0 [.int .i64 m2] := fun j v hj => by (match j, hj with | 0, hj => exact h4.var.cell (i := 0) hj | j + 1, hj => simp at hj)
    refine pt_q (v := ?_) rfl (by rfl) ?_ ?_
    rotate_left
    · intro w' hBw'
      first | (go_simp; done) | (go_simp; with_reducible rfl)
    try simp only [Act.put, List.getElem_toArray, List.getElem_cons_zero, List.getElem_cons_succ, List.setIfInBounds_toArray, List.set_cons_zero, List.set_cons_succ]
    refine pt_q (v := ?_) rfl (by rfl) ?_ ?_
    rotate_left
    · intro w' hBw'
      first | (go_simp; done) | (go_simp; with_reducible rfl)
    try simp only [Act.put, List.getElem_toArray, List.getElem_cons_zero, List.getElem_cons_succ, List.setIfInBounds_toArray, List.set_cons_zero, List.set_cons_succ]
    refine pt_q (v := ?_) rfl (by rfl) ?_ ?_
    rotate_left
    · intro w' hBw'
      first | (go_simp; done) | (go_simp; with_reducible rfl)
    try simp only [Act.put, List.getElem_toArray, List.getElem_cons_zero, List.getElem_cons_succ, List.setIfInBounds_toArray, List.set_cons_zero, List.set_cons_succ]
    refine pt_load rfl (by rfl) 64 (.tmp 19) rfl T1 0 rfl [.int .i64 m1] _ b3 (fun e => e) Try.underlying64 rfl (by kernel_rfl) ?_
    try simp only [Act.put, List.getElem_toArray, List.getElem_cons_zero, List.getElem_cons_succ, List.setIfInBounds_toArray, List.set_cons_zero, List.set_cons_succ]
    refine pt_q (v := ?_) rfl (by rfl) ?_ ?_
    rotate_left
    · intro w' hBw'
      first | (go_simp; done) | (go_simp; with_reducible rfl)
    try simp only [Act.put, List.getElem_toArray, List.getElem_cons_zero, List.getElem_cons_succ, List.setIfInBounds_toArray, List.set_cons_zero, List.set_cons_succ]
    refine pt_q (v := ?_) rfl (by rfl) ?_ ?_
    rotate_left
    · intro w' hBw'
      first | (go_simp; done) | (go_simp; with_reducible rfl)
    try simp only [Act.put, List.getElem_toArray, List.getElem_cons_zero, List.getElem_cons_succ, List.setIfInBounds_toArray, List.set_cons_zero, List.set_cons_succ]
    refine pt_q (v := ?_) rfl (by rfl) ?_ ?_
    rotate_left
    · intro w' hBw'
      first | (go_simp; done) | (go_simp; with_reducible rfl)
    try simp only [Act.put, List.getElem_toArray, List.getElem_cons_zero, List.getElem_cons_succ, List.setIfInBounds_toArray, List.set_cons_zero, List.set_cons_succ]
    refine pt_load rfl (by rfl) 64 (.tmp 23) rfl T2 0 rfl [.int .i64 m2] _ b4 (fun e => e) Try.underlying64 rfl (by kernel_rfl) ?_
    try simp only [Act.put, List.getElem_toArray, List.getElem_cons_zero, List.getElem_cons_succ, List.setIfInBounds_toArray, List.set_cons_zero, List.set_cons_succ]
    refine pt_q (v := ?_) rfl (by rfl) ?_ ?_
    rotate_left
    · intro w' hBw'
      first | (go_simp; done) | (go_simp; with_reducible rfl)
    try simp only [Act.put, List.getElem_toArray, List.getElem_cons_zero, List.getElem_cons_succ, List.setIfInBounds_toArray, List.set_cons_zero, List.set_cons_succ]
    refine pt_q (v := ?_) rfl (by rfl) ?_ ?_
    rotate_left
    · intro w' hBw'
      first | (go_simp; done) | (go_simp; with_reducible rfl)
    try simp only [Act.put, List.getElem_toArray, List.getElem_cons_zero, List.getElem_cons_succ, List.setIfInBounds_toArray, List.set_cons_zero, List.set_cons_succ]
    refine pt_q (v := ?_) rfl (by rfl) ?_ ?_
    rotate_left
    · intro w' hBw'
      first | (go_simp; done) | (go_simp; with_reducible rfl)
    try simp only [Act.put, List.getElem_toArray, List.getElem_cons_zero, List.getElem_cons_succ, List.setIfInBounds_toArray, List.set_cons_zero, List.set_cons_succ]
    refine pt_q (v := ?_) rfl (by rfl) ?_ ?_
    rotate_left
    · intro w' hBw'
      first | (go_simp; done) | (go_simp; with_reducible rfl)
    try simp only [Act.put, List.getElem_toArray, List.getElem_cons_zero, List.getElem_cons_succ, List.setIfInBounds_toArray, List.set_cons_zero, List.set_cons_succ]
    refine pt_q (v := ?_) rfl (by rfl) ?_ ?_
    rotate_left
    · intro w' hBw'
      first | (go_simp; done) | (go_simp; with_reducible rfl)
    try simp only [Act.put, List.getElem_toArray, List.getElem_cons_zero, List.getElem_cons_succ, List.setIfInBounds_toArray, List.set_cons_zero, List.set_cons_succ]
    refine pt_q (v := ?_) rfl (by rfl) ?_ ?_
    rotate_left
    · intro w' hBw'
      have qL := hBw'.cell c3 (fun e => e)
      first | (go_simp; done) | (go_simp; with_reducible rfl)
    try simp only [Act.put, List.getElem_toArray, List.getElem_cons_zero, List.getElem_cons_succ, List.setIfInBounds_toArray, List.set_cons_zero, List.set_cons_succ]
    refine pt_q (v := ?_) rfl (by rfl) ?_ ?_
    rotate_left
    · intro w' hBw'
      first | (go_simp; done) | (go_simp; with_reducible rfl)
    try simp only [Act.put, List.getElem_toArray, List.getElem_cons_zero, List.getElem_cons_succ, List.setIfInBounds_toArray, List.set_cons_zero, List.set_cons_succ]
    refine pt_q (v := ?_) rfl (by rfl) ?_ ?_
    rotate_left
    · intro w' hBw'
      first | (go_simp; done) | (go_simp; with_reducible rfl)
    try simp only [Act.put, List.getElem_toArray, List.getElem_cons_zero, List.getElem_cons_succ, List.setIfInBounds_toArray, List.set_cons_zero, List.set_cons_succ]
    refine pt_q (v := ?_) rfl (by rfl) ?_ ?_
    rotate_left
    · intro w' hBw'
      first | (go_simp; done) | (go_simp; with_reducible rfl)
    try simp only [Act.put, List.getElem_toArray, List.getElem_cons_zero, List.getElem_cons_succ, List.setIfInBounds_toArray, List.set_cons_zero, List.set_cons_succ]
    refine pt_q (v := ?_) rfl (by rfl) ?_ ?_
    rotate_left
    · intro w' hBw'
      have qL := hBw'.cell c4 (fun e => e)
      first | (go_simp; done) | (go_simp; with_reducible rfl)
    try simp only [Act.put, List.getElem_toArray, List.getElem_cons_zero, List.getElem_cons_succ, List.setIfInBounds_toArray, List.set_cons_zero, List.set_cons_succ]
    refine pt_c ?_
    refine pt_step rfl (by rfl) (fun K hK => ?_)
    go_simp
    refine (seEqual_c _ h3.map h4.map HO.out).mono ?_
    rintro en w5 ⟨rfl, hb5⟩
    go_wp2_with fail
    refine hK.out _ _ (But.of_below hb5) ?_
    clear hK K
    try simp only [Act.put, List.getElem_toArray, List.getElem_cons_zero, List.getElem_cons_succ, List.setIfInBounds_toArray, List.set_cons_zero, List.set_cons_succ]
    refine pt_q (v := ?_) rfl (by rfl) ?_ ?_
    rotate_left
    · intro w' hBw'
      first | (go_simp; done) | (go_simp; with_reducible rfl)
    try simp only [Act.put, List.getElem_toArray, List.getElem_cons_zero, List.getElem_cons_succ, List.setIfInBounds_toArray, List.set_cons_zero, List.set_cons_succ]
    refine pt_q (v := ?_) rfl (by rfl) ?_ ?_
    rotate_left
    · intro w' hBw'
      first | (go_simp; done) | (go_simp; with_reducible rfl)
    try simp only [Act.put, List.getElem_toArray, List.getElem_cons_zero, List.getElem_cons_succ, List.setIfInBounds_toArray, List.set_cons_zero, List.set_cons_succ]
    refine pt_done ?_
    go_wp2
    go_ret
    exact ⟨retB (by rw [← HR.out, decide_eq_true HM.out, Bool.true_and]), below_up (below_up HB.out hBd) hb5⟩
  · have HM := Lib.hid hm
    rw [decide_eq_false hm] at hq
    clear hm
    go_enter Try.func10, Try.ntmps10
    go_wp2_with (go_at_call 23; first
      | ((with_reducible refine (seNone_c _ h1).mono ?_); rintro en w1 ⟨rfl, hb⟩; replace h2 := h2.below hb; replace h1 := h1.below hb; replace HB := Lib.hid (below_up HB.out hb); clear hb)
      | ((with_reducible refine (seNone_c _ h2).mono ?_); rintro en w2 ⟨rfl, hb2⟩; replace h2 := h2.below hb2; replace h1 := h1.below hb2; replace HB := Lib.hid (below_up HB.out hb2); clear hb2))
    refine wp_region_pt (fun _ => False) (.q 0 (.q 1 (.q 2 (.q 3 (.q 4 (.q 5 (.q 6 (.q 7 (.q 8 (.q 9 (.q 10 (.q 11 (.q 12 (.q 13 (.q 14 (.q 15 (.q 16 (.q 17 (.q 18 (.q 19 (.q 20 .done))))))))))))))))))))) (by kernel_rfl) (by kernel_rfl) (by kernel_rfl) (by decide) (fun _ _ d _ _ h => by cases d <;> exact h) (fun Wd hBd => ?_)
    try simp only [Act.put, List.getElem_toArray, List.getElem_cons_zero, List.getElem_cons_succ, List.setIfInBounds_toArray, List.set_cons_zero, List.set_cons_succ]
    have h3 := h1.below hBd
    have h4 := h2.below hBd
    have c3 := h3.var.cell (i := 1) (v := .map (some M1)) rfl
    have c4 := h4.var.cell (i := 1) (v := .map (some M2)) rfl
    have b3 : Wd.rangeAt T1 0 [.int .i64 m1] := fun j v hj => by (match j, hj with | 0, hj => exact h3.var.cell (i := 0) hj | j + 1, hj => simp at hj)
    have b4 : Wd.rangeAt T2 0 [.int .i64 m2] := fun j v hj => by (match j, hj with | 0, hj => exact h4.var.cell (i := 0) hj | j + 1, hj => simp at hj)
    refine pt_q (v := ?_) rfl (by rfl) ?_ ?_
    rotate_left
    · intro w' hBw'
      first | (go_simp; done) | (go_simp; with_reducible rfl)
    try simp only [Act.put, List.getElem_toArray, List.getElem_cons_zero, List.getElem_cons_succ, List.setIfInBounds_toArray, List.set_cons_zero, List.set_cons_succ]
    refine pt_q (v := ?_) rfl (by rfl) ?_ ?_
    rotate_left
    · intro w' hBw'
      first | (go_simp; done) | (go_simp; with_reducible rfl)
    try simp only [Act.put, List.getElem_toArray, List.getElem_cons_zero, List.getElem_cons_succ, List.setIfInBounds_toArray, List.set_cons_zero, List.set_cons_succ]
    refine pt_q (v := ?_) rfl (by rfl) ?_ ?_
    rotate_left
    · intro w' hBw'
      first | (go_simp; done) | (go_simp; with_reducible rfl)
    try simp only [Act.put, List.getElem_toArray, List.getElem_cons_zero, List.getElem_cons_succ, List.setIfInBounds_toArray, List.set_cons_zero, List.set_cons_succ]
    refine pt_load rfl (by rfl) 64 (.tmp 19) rfl T1 0 rfl [.int .i64 m1] _ b3 (fun e => e) Try.underlying64 rfl (by kernel_rfl) ?_
    try simp only [Act.put, List.getElem_toArray, List.getElem_cons_zero, List.getElem_cons_succ, List.setIfInBounds_toArray, List.set_cons_zero, List.set_cons_succ]
    refine pt_q (v := ?_) rfl (by rfl) ?_ ?_
    rotate_left
    · intro w' hBw'
      first | (go_simp; done) | (go_simp; with_reducible rfl)
    try simp only [Act.put, List.getElem_toArray, List.getElem_cons_zero, List.getElem_cons_succ, List.setIfInBounds_toArray, List.set_cons_zero, List.set_cons_succ]
    refine pt_q (v := ?_) rfl (by rfl) ?_ ?_
    rotate_left
    · intro w' hBw'
      first | (go_simp; done) | (go_simp; with_reducible rfl)
    try simp only [Act.put, List.getElem_toArray, List.getElem_cons_zero, List.getElem_cons_succ, List.setIfInBounds_toArray, List.set_cons_zero, List.set_cons_succ]
    refine pt_q (v := ?_) rfl (by rfl) ?_ ?_
    rotate_left
    · intro w' hBw'
      first | (go_simp; done) | (go_simp; with_reducible rfl)
    try simp only [Act.put, List.getElem_toArray, List.getElem_cons_zero, List.getElem_cons_succ, List.setIfInBounds_toArray, List.set_cons_zero, List.set_cons_succ]
    refine pt_load rfl (by rfl) 64 (.tmp 23) rfl T2 0 rfl [.int .i64 m2] _ b4 (fun e => e) Try.underlying64 rfl (by kernel_rfl) ?_
    try simp only [Act.put, List.getElem_toArray, List.getElem_cons_zero, List.getElem_cons_succ, List.setIfInBounds_toArray, List.set_cons_zero, List.set_cons_succ]
    refine pt_q (v := ?_) rfl (by rfl) ?_ ?_
    rotate_left
    · intro w' hBw'
      first | (go_simp; done) | (go_simp; with_reducible rfl)
    try simp only [Act.put, List.getElem_toArray, List.getElem_cons_zero, List.getElem_cons_succ, List.setIfInBounds_toArray, List.set_cons_zero, List.set_cons_succ]
    refine pt_q (v := ?_) rfl (by rfl) ?_ ?_
    rotate_left
    · intro w' hBw'
      first | (go_simp; done) | (go_simp; with_reducible rfl)
    try simp only [Act.put, List.getElem_toArray, List.getElem_cons_zero, List.getElem_cons_succ, List.setIfInBounds_toArray, List.set_cons_zero, List.set_cons_succ]
    refine pt_no rfl (by rfl) ?_
    try simp only [Act.put, List.getElem_toArray, List.getElem_cons_zero, List.getElem_cons_succ, List.setIfInBounds_toArray, List.set_cons_zero, List.set_cons_succ]
    refine pt_no rfl (by rfl) ?_
    try simp only [Act.put, List.getElem_toArray, List.getElem_cons_zero, List.getElem_cons_succ, List.setIfInBounds_toArray, List.set_cons_zero, List.set_cons_succ]
    refine pt_no rfl (by rfl) ?_
    try simp only [Act.put, List.getElem_toArray, List.getElem_cons_zero, List.getElem_cons_succ, List.setIfInBounds_toArray, List.set_cons_zero, List.set_cons_succ]
    refine pt_no rfl (by rfl) ?_
    try simp only [Act.put, List.getElem_toArray, List.getElem_cons_zero, List.getElem_cons_succ, List.setIfInBounds_toArray, List.set_cons_zero, List.set_cons_succ]
    refine pt_no rfl (by rfl) ?_
    try simp only [Act.put, List.getElem_toArray, List.getElem_cons_zero, List.getElem_cons_succ, List.setIfInBounds_toArray, List.set_cons_zero, List.set_cons_succ]
    refine pt_no rfl (by rfl) ?_
    try simp only [Act.put, List.getElem_toArray, List.getElem_cons_zero, List.getElem_cons_succ, List.setIfInBounds_toArray, List.set_cons_zero, List.set_cons_succ]
    refine pt_no rfl (by rfl) ?_
    try simp only [Act.put, List.getElem_toArray, List.getElem_cons_zero, List.getElem_cons_succ, List.setIfInBounds_toArray, List.set_cons_zero, List.set_cons_succ]
    refine pt_no rfl (by rfl) ?_
    try simp only [Act.put, List.getElem_toArray, List.getElem_cons_zero, List.getElem_cons_succ, List.setIfInBounds_toArray, List.set_cons_zero, List.set_cons_succ]
    refine pt_no rfl (by rfl) ?_
    try simp only [Act.put, List.getElem_toArray, List.getElem_cons_zero, List.getElem_cons_succ, List.setIfInBounds_toArray, List.set_cons_zero, List.set_cons_succ]
    refine pt_q (v := ?_) rfl (by rfl) ?_ ?_
    rotate_left
    · intro w' hBw'
      first | (go_simp; done) | (go_simp; with_reducible rfl)
    try simp only [Act.put, List.getElem_toArray, List.getElem_cons_zero, List.getElem_cons_succ, List.setIfInBounds_toArray, List.set_cons_zero, List.set_cons_succ]
    refine pt_q (v := ?_) rfl (by rfl) ?_ ?_
    rotate_left
    · intro w' hBw'
      first | (go_simp; done) | (go_simp; with_reducible rfl)
    try simp only [Act.put, List.getElem_toArray, List.getElem_cons_zero, List.getElem_cons_succ, List.setIfInBounds_toArray, List.set_cons_zero, List.set_cons_succ]
    refine pt_done ?_
    go_wp2
    go_ret
    exact ⟨retB (by rw [← HR.out, decide_eq_false HM.out, Bool.false_and]), below_up HB.out hBd⟩
set_option maxRecDepth 100000 in
theorem seSame_no {T M : Nat} {most : Int} {E : List (Sg × Int)} (w : World) (h : Tab w T M most E) :
    Calls Try.prog 10 #[.pointer (some ⟨T, 0, none⟩), .pointer none] w (Ret (.bool false) w) := by
  have HB := Lib.hid (Below.refl w.heap.size w)
  go_enter Try.func10, Try.ntmps10
  go_wp2_with (go_at_call 23; first
    | ((with_reducible refine (seNone_c _ h).mono ?_); rintro en w1 ⟨rfl, hb⟩; replace h := h.below hb; replace HB := Lib.hid (below_up HB.out hb); clear hb)
    | ((with_reducible refine (seNone_nil _).mono ?_); rintro en w2 ⟨rfl, hb2⟩; replace h := h.below hb2; replace HB := Lib.hid (below_up HB.out hb2); clear hb2))
  go_ret
  exact ⟨rfl, HB.out⟩

namespace Sn
/-- What Prune leaves. -/
def left (E : List (Sg × Int)) (at_ : Int) : List (Sg × Int) := E.filter fun p => decide (at_ < p.2)
def uOf (v : Value) : Int := match v with | .int _ n => n | _ => 0
/-- The entries that are there yet. -/
def keptE (L : List MapEntry) (seen : Array Nat) (at_ : Int) : List MapEntry := L.filter fun e => !(seen.contains e.born && decide (uOf e.val ≤ at_))
theorem kept_start (L : List MapEntry) (at_ : Int) : keptE L #[] at_ = L := by
  unfold keptE
  rw [List.filter_eq_self]
  intro e _
  simp
theorem kept_stay {L : List MapEntry} {seen : Array Nat} {at_ : Int} {e : MapEntry} (hn : (L.map (·.born)).Nodup) (he : e ∈ L) (hv : ¬ uOf e.val ≤ at_) : keptE L (seen.push e.born) at_ = keptE L seen at_ := by
  unfold keptE
  refine List.filter_congr fun x hx => ?_
  by_cases hxe : x.born = e.born
  · have := born_inj hn hx he hxe
    subst this
    rw [decide_eq_false hv, Bool.and_false, Bool.and_false]
  · have : (seen.push e.born).contains x.born = seen.contains x.born := by rw [Bool.eq_iff_iff]; simp [hxe]
    rw [this]
theorem filter_ne_mid {A B : List MapEntry} {e : MapEntry} (hn : ((A ++ e :: B).map (·.born)).Nodup) : (A ++ e :: B).filter (fun x => !(decide (x.born = e.born))) = A ++ B := by
  rw [List.map_append, List.map_cons, List.nodup_append, List.nodup_cons] at hn
  rw [List.filter_append, List.filter_cons]
  have h1 : A.filter (fun x => !(decide (x.born = e.born))) = A := by
    rw [List.filter_eq_self]
    intro x hx
    have := hn.2.2 x.born (List.mem_map.2 ⟨x, hx, rfl⟩) e.born (by simp)
    simp [this]
  have h2 : B.filter (fun x => !(decide (x.born = e.born))) = B := by
    rw [List.filter_eq_self]
    intro x hx
    have : ¬ x.born = e.born := fun e' => hn.2.1.1 (List.mem_map.2 ⟨x, hx, e'⟩)
    simp [this]
  rw [h1, h2]
  simp
theorem kept_gone {L A B : List MapEntry} {seen : Array Nat} {at_ : Int} {e : MapEntry} (hn : (L.map (·.born)).Nodup) (he : e ∈ L) (hv : uOf e.val ≤ at_) (hk : keptE L seen at_ = A ++ e :: B) : keptE L (seen.push e.born) at_ = A ++ B := by
  have hnk : ((A ++ e :: B).map (·.born)).Nodup := by rw [← hk]; exact (List.Sublist.map _ List.filter_sublist).nodup hn
  rw [← filter_ne_mid hnk, ← hk]
  unfold keptE
  rw [List.filter_filter]
  refine List.filter_congr fun x hx => ?_
  by_cases hxe : x.born = e.born
  · have := born_inj hn hx he hxe
    subst this
    have h1 : (seen.push x.born).contains x.born = true := by simp
    rw [h1, decide_eq_true hv]
    simp
  · have : (seen.push e.born).contains x.born = seen.contains x.born := by rw [Bool.eq_iff_iff]; simp [hxe]
    rw [this, decide_eq_false hxe]
    simp
theorem kept_end {L : List MapEntry} {seen : Array Nat} {at_ : Int} (h : ∀ e ∈ keptE L seen at_, seen.contains e.born = true) : keptE L seen at_ = L.filter fun e => decide (at_ < uOf e.val) := by
  have h0 : ∀ x ∈ L, seen.contains x.born = true := fun x hx => by
    by_cases hs : seen.contains x.born = true
    · exact hs
    · have hs' : seen.contains x.born = false := by simpa using hs
      exact h x (by unfold keptE; rw [List.mem_filter]; exact ⟨hx, by rw [hs']; rfl⟩)
  unfold keptE
  refine List.filter_congr fun x hx => ?_
  rw [h0 x hx, Bool.true_and]
  by_cases hle : uOf x.val ≤ at_
  · rw [decide_eq_true hle, decide_eq_false (by omega)]; rfl
  · rw [decide_eq_false hle, decide_eq_true (by omega)]; rfl
theorem ents_left {L L' : List MapEntry} {E : List (Sg × Int)} {at_ : Int} (he : L.map (fun e => (e.key, e.val)) = E.map sEnt) (h : L' = L.filter fun e => decide (at_ < uOf e.val)) : L'.map (fun e => (e.key, e.val)) = (left E at_).map sEnt := by
  have h1 : (L.filter fun e => decide (at_ < uOf e.val)).map (fun e => (e.key, e.val)) = (L.map (fun e => (e.key, e.val))).filter (fun p => decide (at_ < uOf p.2)) := by rw [List.filter_map]; rfl
  rw [h, h1, he, List.filter_map]
  rfl
end Sn
theorem leftOf_le {A B : Array MapEntry} {s : Array Nat} (h : A.toList.Sublist B.toList) : (leftOf A s).size ≤ (leftOf B s).size := by
  have := (h.filter (fun e => !s.contains e.born)).length_le
  rw [← Array.toList_filter, ← Array.toList_filter, Array.length_toList, Array.length_toList] at this
  exact this
theorem map_del {P : Program} {k t el : TypeId} {w : World} {M : Nat} {es : Array MapEntry} {clock : Nat} {A B : List MapEntry} {e : MapEntry} (hb : w.heap[M]? = some (.map es clock)) (hes : es.toList = A ++ e :: B) (K : Keyed P k) (ht : P.underlying t = some (.map k el))
    (hks : ∀ x ∈ es.toList, ∃ l, keyOf P k x.key = some l) (h1 : (es.toList.map (·.key)).Nodup) (kt ty : TypeId) :
    ∃ (w' : World) (es' : Array MapEntry), (Builtin.delete_ #[t, kt] ty #[.map (some M), e.key]).run P w = .ok (.tuple #[]) w' ∧ w'.heap[M]? = some (.map es' clock) ∧ es'.toList = A ++ B ∧ But (· = M) w w' := by
  obtain ⟨l, hx⟩ := hks e (by rw [hes]; simp)
  have hlt : M < w.heap.size := (Array.getElem?_eq_some_iff.1 hb).1
  rcases K.find w hx es.toList hks with ⟨h2, h3⟩ | ⟨j, e0, h2, h3, h4⟩
  · exact absurd rfl (h3 e (by rw [hes]; simp))
  · have hj : j = A.length := by
      rw [hes, List.map_append, List.map_cons, List.nodup_append, List.nodup_cons] at h1
      rw [hes] at h3
      rcases Nat.lt_trichotomy j A.length with h | h | h
      · rw [List.getElem?_append_left h] at h3
        exact absurd h4 (h1.2.2 _ (List.mem_map.2 ⟨e0, List.mem_of_getElem? h3, rfl⟩) _ (by simp))
      · exact h
      · rw [List.getElem?_append_right (by omega), show j - A.length = (j - A.length - 1) + 1 by omega, List.getElem?_cons_succ] at h3
        exact absurd (List.mem_map.2 ⟨e0, List.mem_of_getElem? h3, h4⟩) h1.2.1.1
    refine ⟨{ w with heap := w.heap.setIfInBounds M (.map (es.eraseIdxIfInBounds j) clock) }, es.eraseIdxIfInBounds j, ?_, Array.getElem?_setIfInBounds_self_of_lt hlt, ?_, ?_⟩
    · simp [Builtin.delete_, run_underlying ht, MapKept.run_getObj_map hb, K.check w _ hx, h2, MapKept.run_setObj_map _ hb, Result.andThen]
    · rw [Array.toList_eraseIdxIfInBounds, hes, hj, List.eraseIdx_append_of_length_le (Nat.le_refl _), Nat.sub_self]; rfl
    · exact ⟨rfl, rfl, rfl, by simp, fun i hi hne => Array.getElem?_setIfInBounds_ne (fun e => hne e.symm)⟩
theorem pt_delS {P : Program} {ops : Array Oper} {Q : Exit → Act → World → Prop} {O : Nat → Prop} {i : Nat} {o : Oper} {R : Act → World → Prop} {a : Act} {w w' : World} (hi : ops[i]? = some o) (hw : Region.wanted o (yielded ops a.tmps) = true) (t kt : TypeId) (m x : Operand)
    (ho : o.op = .call { callee := .builtin .delete, args := #[m, x], argTypes := #[t, kt] }) {mv xv : Value} (hm : a.eval m = mv) (hx : a.eval x = xv) {u : Value} (hr : (Builtin.delete_ #[t, kt] o.type #[mv, xv]).run P w = .ok u w') (hb : But O w w')
    (h : R (a.put o.dst u) w') : ptStep P O ops Q i R a w :=
  ⟨o, hi, hw, by
    unfold Oper.wp execOp
    simp only [ho, resolve, invoke, builtin, Sem.run_bind, Sem.run_pure, Result.andThen_ok, List.map_toArray, List.map_cons, List.map_nil, hm, hx, hr]
    exact ⟨hb, h⟩⟩
/-- What a table's Prune leaves behind it. -/
def Sn.PrunedAt (T M : Nat) (most : Int) (E : List (Sg × Int)) (at_ : Int) (w : World) (en : Ending) (w' : World) : Prop :=
  en = .returned (.tuple #[.int .i64 ((E.length : Int) - (left E at_).length), .int .i64 0]) ∧ Tab w' T M most (left E at_) ∧ But (· = M) w w'
set_option maxHeartbeats 4000000 in
set_option maxRecDepth 100000 in
theorem sePrune_c {T M : Nat} {most : Int} {E : List (Sg × Int)} (at_ : Int) (w : World) (h : Tab w T M most E) :
    Calls Try.prog 11 #[.pointer (some ⟨T, 0, none⟩), .int .u64 at_] w (PrunedAt T M most E at_ w) := by
  go_enter Try.func11, Try.ntmps11
  go_wp2_with (go_at_call 23; refine (seNone_c _ h).mono ?_; rintro en w1 ⟨rfl, hb1⟩; have h1 := h.below hb1; have c1 := h1.var.cell (i := 1) (v := .map (some M)) rfl; obtain ⟨es, clock, hbm, he, hbn, hrg⟩ := h1.map.range Try.underlying30)
  have R0 := Rng.start hbm
  have HE := Lib.hid (fun (e : MapEntry) (hm : e ∈ es.toList) => show ∃ p ∈ E, e.key = sgV p.1 ∧ e.val = .int .u64 p.2 by
    have : (e.key, e.val) ∈ E.map sEnt := by rw [← he]; exact List.mem_map.2 ⟨e, hm, rfl⟩
    obtain ⟨p, hp, hpe⟩ := List.mem_map.1 this
    exact ⟨p, hp, (congrArg Prod.fst hpe).symm, (congrArg Prod.snd hpe).symm⟩)
  have HK := Lib.hid (fun (e : MapEntry) (hm : e ∈ es.toList) => show ∃ l, keyOf Try.prog 38 e.key = some l by
    obtain ⟨p, hp, hk, _⟩ := HE.out e hm
    rw [hk]; exact sg_key p.1 (h.ok p hp))
  have HU := Lib.hid (show (es.toList.map (·.key)).Nodup by
    have := h1.map.one
    rw [← he, List.map_map] at this
    exact this)
  have HN := Lib.hid hbn
  have HLen := Lib.hid (show es.toList.length = E.length by have := congrArg List.length he; simpa using this)
  have HEE := Lib.hid he
  have hM1 := h1.map.lt
  have V1 := Lib.hid h1.var
  have hT1 := h1.var.lt
  have HTM := Lib.hid h1.ne
  have HB1 := Lib.hid (below_up hb1 (below_alloc w1 (.mapIter (some M) clock #[] clock)))
  have HB0 := Lib.hid (below_alloc w1 (.mapIter (some M) clock #[] clock))
  have HH := Lib.hid h
  have hs1 := hb1.size
  clear he hbn h1 c1 hbm hrg hb1 h
  go_loopw [4] (fun n wr => ∃ (seen : Array Nat) (es' : Array MapEntry) (k : Nat), n = .int .i64 k ∧ k ≤ 4096 ∧ Rng wr M w1.heap.size es' clock seen ∧ RowKit.Hid (es'.toList = keptE es.toList seen at_ ∧ k + es'.toList.length = es.toList.length) ∧ RowAt wr T #[.int .i64 most, .map (some M)] 66 ∧ But (· = M) w wr ∧ w1.heap.size + 1 ≤ wr.heap.size) (fun _ wr => rngLeft wr M w1.heap.size)
  case atStart => exact ⟨#[], es, 0, rfl, by omega, R0, Lib.hid ⟨(kept_start _ _).symm, by omega⟩, V1.out.below HB0.out, But.of_below HB1.out, by simp⟩
  case round =>
    obtain ⟨seen, es', k, rfl, hk, R, HX, V, hbw, hsz⟩ := hrel
    have HN' := Lib.hid (show Born es' clock from ⟨fun e he => HN.out.1 e (by rw [HX.out.1] at he; exact (List.mem_filter.1 he).1), by rw [HX.out.1]; exact (List.Sublist.map _ List.filter_sublist).nodup HN.out.2⟩)
    have hkb : k < 4096 ∨ k = 4096 := by omega
    rcases R.next (P := Try.prog) HN'.out 0 with ⟨hl0, hrun⟩ | ⟨e, w2, hme, hrun, R1, hb2⟩
    · have HL := Lib.hid (kept_end (L := es.toList) (seen := seen) (at_ := at_) (fun e he => all_seen es' seen hl0 e (by rw [HX.out.1]; exact he)))
      have HB := Lib.hid hbw
      clear hl0 hbw
      go_wp2
      refine bodyPost_ret (v := .tuple #[.int .i64 k, .int .i64 0]) (by simp [results, Try.results11, go_sem]) rfl ?_
      have h1 := ents_left (at_ := at_) HEE.out (HX.out.1.trans HL.out)
      have hl1 : es'.toList.length = (left E at_).length := by have := congrArg List.length h1; simpa using this
      have hl2 := HX.out.2
      have hl3 := HLen.out
      have hle : (left E at_).length ≤ E.length := List.length_filter_le _ _
      refine ⟨?_, ⟨V, ⟨⟨es', clock, R.map, h1, HN'.out⟩, ?_, ?_⟩, HTM.out, ?_, ?_, HH.out.most⟩, HB.out⟩
      · rw [show ((E.length : Int) - ((left E at_).length : Int)) = (k : Int) by omega]
      · intro p hp
        obtain ⟨q, hq, rfl⟩ := List.mem_map.1 hp
        exact sg_key q.1 (HH.out.ok q (List.mem_filter.1 hq).1)
      · exact (List.Sublist.map _ (List.Sublist.map _ List.filter_sublist)).nodup HH.out.map.one
      · exact fun p hp => HH.out.ok p (List.mem_filter.1 hp).1
      · have := HH.out.len; omega
    · have hme' := mem_left hme
      have hmE : e ∈ es.toList := by have := hme'.1; rw [HX.out.1] at this; exact (List.mem_filter.1 this).1
      obtain ⟨p, hp, hkk, hv⟩ := HE.out e hmE
      have hen := R1.entry (P := Try.prog) HN'.out hme'.1
      have HKK := Lib.hid hkk
      have HV := Lib.hid (show uOf e.val = p.2 by rw [hv]; rfl)
      have HLT := Lib.hid (left_shrinks es' seen e hme)
      have HM := Lib.hid hme'
      have HmE := Lib.hid hmE
      have HR := Lib.hid R
      rw [hkk, hv] at hrun hen
      have A1 := RowAt.new w2 (sgC p.1).toArray 38
      have hs2 := hb2.size
      have V2 : RowAt w2 T #[.int .i64 most, .map (some M)] 66 := (hb2.same T V.lt (by omega)).trans V
      have hB3 := below_alloc w2 (.cells (sgC p.1).toArray 38)
      have HB3 := Lib.hid hB3
      have HW2 := Lib.hid (hbw.then hb2 (fun j hj e' => by omega))
      clear hme hme' hkk hv hb2 hmE R
      by_cases hle : p.2 ≤ at_
      · obtain ⟨A, B, hAB⟩ := List.append_of_mem HM.out.1
        have HAB := Lib.hid hAB
        clear hAB
        go_wp2
        refine wp_region_pt ((· = M)) (.q 0 (.q 1 (.q 2 (.q 3 (.q 4 (.c 5 .done)))))) (by kernel_rfl) (by kernel_rfl) (by kernel_rfl) (by decide) (fun _ _ d _ _ h => by cases d <;> exact h) (fun Wd hBd => ?_)
        try simp only [Act.put, List.getElem_toArray, List.getElem_cons_zero, List.getElem_cons_succ, List.setIfInBounds_toArray, List.set_cons_zero, List.set_cons_succ]
        have hA1 := A1.below hBd
        have V3 := (V2.below HB3.out).below hBd
        have fM := V3.cell (i := 1) (v := .map (some M)) rfl
        have R3 := R1.up (below_up HB3.out hBd)
        obtain ⟨w7, es7, hdel, hm7, hes7, hb7⟩ := map_del R3.map HAB.out sgKeyed Try.underlying30 (fun x hx => HK.out x (by rw [HX.out.1] at hx; exact (List.mem_filter.1 hx).1)) (by rw [HX.out.1]; exact (List.Sublist.map _ List.filter_sublist).nodup HU.out) 38 0
        rw [HKK.out] at hdel
        refine pt_q (v := ?_) rfl (by rfl) ?_ ?_
        rotate_left
        · intro w' hBw'
          first | (go_simp; done) | (go_simp; with_reducible rfl)
        try simp only [Act.put, List.getElem_toArray, List.getElem_cons_zero, List.getElem_cons_succ, List.setIfInBounds_toArray, List.set_cons_zero, List.set_cons_succ]
        refine pt_q (v := ?_) rfl (by rfl) ?_ ?_
        rotate_left
        · intro w' hBw'
          first | (go_simp; done) | (go_simp; with_reducible rfl)
        try simp only [Act.put, List.getElem_toArray, List.getElem_cons_zero, List.getElem_cons_succ, List.setIfInBounds_toArray, List.set_cons_zero, List.set_cons_succ]
        refine pt_q (v := ?_) rfl (by rfl) ?_ ?_
        rotate_left
        · intro w' hBw'
          first | (go_simp; done) | (go_simp; with_reducible rfl)
        try simp only [Act.put, List.getElem_toArray, List.getElem_cons_zero, List.getElem_cons_succ, List.setIfInBounds_toArray, List.set_cons_zero, List.set_cons_succ]
        refine pt_q (v := ?_) rfl (by rfl) ?_ ?_
        rotate_left
        · intro w' hBw'
          have qL := hBw'.cell fM (fun e => HTM.out e)
          first | (go_simp; done) | (go_simp; with_reducible rfl)
        try simp only [Act.put, List.getElem_toArray, List.getElem_cons_zero, List.getElem_cons_succ, List.setIfInBounds_toArray, List.set_cons_zero, List.set_cons_succ]
        refine pt_load rfl (by rfl) 38 (.tmp 6) rfl w2.heap.size 0 rfl (sgC p.1) _ hA1.range (by omega) Try.underlying38 rfl (by kernel_rfl) ?_
        try simp only [Act.put, List.getElem_toArray, List.getElem_cons_zero, List.getElem_cons_succ, List.setIfInBounds_toArray, List.set_cons_zero, List.set_cons_succ]
        refine pt_c ?_
        refine pt_delS rfl (by rfl) 30 38 (.tmp 26) (.tmp 27) rfl (mv := .map (some M)) (xv := sgV p.1) rfl rfl hdel hb7 ?_
        try simp only [Act.put, List.getElem_toArray, List.getElem_cons_zero, List.getElem_cons_succ, List.setIfInBounds_toArray, List.set_cons_zero, List.set_cons_succ]
        refine pt_done ?_
        have HS := Lib.hid (kept_gone HN.out.2 HmE.out (by rw [HV.out]; exact hle) (HX.out.1.symm.trans HAB.out))
        have hlen := HX.out.2
        have hab : es'.toList.length = A.length + B.length + 1 := by rw [HAB.out]; simp; omega
        have hL := HLen.out
        have hLm := HH.out.len
        have HB7 := Lib.hid hb7
        have hs7 := hb7.size
        have hBs := (below_up HB3.out hBd).size
        have HBd := Lib.hid (below_up HB3.out hBd)
        clear hb7 hBd hdel fM
        go_wp2
        go_roundw
        case rel =>
          refine ⟨_, es7, k + 1, by go_num, by omega, ⟨hm7, (HB7.out.same _ R3.lt (by omega)).trans R3.it⟩, Lib.hid ⟨?_, ?_⟩, (HB7.out.same T V3.lt HTM.out).trans V3, (HW2.out.trans (But.of_below HBd.out)).trans HB7.out, by omega⟩
          · rw [hes7]; exact HS.out.symm
          · rw [hes7, List.length_append]; omega
        case measure =>
          have h7 : Rng w7 M w1.heap.size es7 clock (seen.push e.born) := ⟨hm7, (HB7.out.same _ R3.lt (by omega)).trans R3.it⟩
          rw [h7.left, HR.out.left]
          refine Nat.lt_of_le_of_lt (leftOf_le ?_) HLT.out
          rw [hes7, HAB.out]
          exact List.Sublist.append (List.Sublist.refl _) (List.sublist_cons_self _ _)
      · have hgt : ¬ p.2 ≤ at_ := hle
        have HS := Lib.hid (kept_stay HN.out.2 HmE.out (by rw [HV.out]; exact hle) (seen := seen))
        have R3 := R1.up HB3.out
        have V3 := V2.below HB3.out
        go_wp2
        go_roundw
        case rel => exact ⟨_, es', k, rfl, hk, R3, Lib.hid ⟨HX.out.1.trans HS.out.symm, HX.out.2⟩, V3, HW2.out.trans (But.of_below HB3.out), by simp; omega⟩
        case measure => rw [R3.left, HR.out.left]; exact HLT.out
end Go.Proofs.Ytfoncaamhleckaa
