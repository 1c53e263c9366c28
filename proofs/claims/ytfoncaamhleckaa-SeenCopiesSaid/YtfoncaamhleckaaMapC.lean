/-
  A map of one's own, ranged over: the iterator in whatever block; its next entry, in whatever order.
-/
import Derived.Test.YtfoncaamhleckaaMapB
import Derived.Laws.IdiomRangeMap
namespace Go.Proofs.Ytfoncaamhleckaa
open Go.RowKit Go.Maps
set_option linter.unusedVariables false

section
variable {P : Program}

/-- An iterator in block r goes over the map in block M: its entries, its clock, and what has been handed out. -/
structure Rng (w : World) (M r : Nat) (es : Array MapEntry) (clock : Nat) (seen : Array Nat) : Prop where
  map : w.heap[M]? = some (.map es clock)
  it : w.heap[r]? = some (.mapIter (some M) clock seen clock)
theorem Rng.but {w w' : World} {M r : Nat} {es : Array MapEntry} {clock : Nat} {seen : Array Nat} (h : Rng w M r es clock seen) {O : Nat → Prop} (hb : But O w w') (hM : ¬ O M) (hr : ¬ O r) : Rng w' M r es clock seen :=
  ⟨hb.obj h.map hM, hb.obj h.it hr⟩
theorem Rng.up {w w' : World} {M r : Nat} {es : Array MapEntry} {clock : Nat} {seen : Array Nat} (h : Rng w M r es clock seen) (hb : Below w.heap.size w w') : Rng w' M r es clock seen :=
  h.but (O := fun _ => False) (But.of_below hb) (fun h => h) (fun h => h)
theorem Rng.lt {w : World} {M r : Nat} {es : Array MapEntry} {clock : Nat} {seen : Array Nat} (h : Rng w M r es clock seen) : r < w.heap.size := (Array.getElem?_eq_some_iff.1 h.it).1
theorem Rng.start {w : World} {M : Nat} {es : Array MapEntry} {clock : Nat} (h : w.heap[M]? = some (.map es clock)) : Rng (w.alloc (.mapIter (some M) clock #[] clock)) M w.heap.size es clock #[] :=
  ⟨by rw [heap_alloc_old _ _ (Array.getElem?_eq_some_iff.1 h).1, h], heap_alloc_new w _⟩

/-- How many are left. -/
def rngLeft (w : World) (M r : Nat) : Nat := match w.heap[M]?, w.heap[r]? with | some (.map es _), some (.mapIter _ _ seen _) => (leftOf es seen).size | _, _ => 0
theorem Rng.left {w : World} {M r : Nat} {es : Array MapEntry} {clock : Nat} {seen : Array Nat} (h : Rng w M r es clock seen) : rngLeft w M r = (leftOf es seen).size := by
  unfold rngLeft; rw [h.map, h.it]

theorem Rng.next {w : World} {M r : Nat} {es : Array MapEntry} {clock : Nat} {seen : Array Nat} (h : Rng w M r es clock seen) (hbn : Born es clock) (ty : TypeId) :
    ((leftOf es seen).size = 0 ∧ (Instr.next (.pointer (some ⟨r, 0, none⟩)) false ty).run P w = .ok (.tuple #[.bool false]) w) ∨
    ∃ e w', e ∈ (leftOf es seen).toList ∧ (Instr.next (.pointer (some ⟨r, 0, none⟩)) false ty).run P w = .ok (.tuple #[.bool true, e.key, e.val]) w' ∧ Rng w' M r es clock (seen.push e.born) ∧ But (· = r) w w' := by
  have hne : M ≠ r := fun e => by have h1 := h.map; rw [e, h.it] at h1; cases h1
  simp only [Instr.next, getObj, Sem.run_bind, Sem.run, h.it, h.map, Result.andThen, next_test_false seen es clock clock hbn.1 (Nat.le_refl _), Bool.false_eq_true, if_false]
  unfold leftOf
  have hmem : ∀ x ∈ (Array.filter (fun e => !seen.contains e.born) es).toList, x.born < clock := fun x hx => hbn.1 x (by simp at hx ⊢; exact hx.1)
  generalize Array.filter (fun e => !seen.contains e.born) es = L at hmem ⊢
  have e1 : L.filter (fun x => decide (x.born < clock)) = L := Array.filter_eq_self.2 (fun x hx => by simpa using hmem x (by simpa using hx))
  have e2 : L.filter (fun x => decide (x.born ≥ clock)) = #[] := by
    rw [Array.filter_eq_empty_iff]
    intro x hx
    have := hmem x (by simpa using hx)
    simp
    omega
  simp only [e1, e2, Array.append_empty]
  by_cases h0 : L.size = 0
  · left
    have : L = #[] := Array.eq_empty_of_size_eq_zero h0
    subst this
    refine ⟨rfl, ?_⟩
    simp [choose, Sem.run, Question.forced]
  · right
    have hnE : L.isEmpty = false := by simp [Array.isEmpty, h0]
    simp only [hnE, Bool.false_eq_true, if_false, Array.empty_append, Array.size_map]
    have hch : ∃ (j : Nat) (w1 : World), j < L.size ∧ w1.heap = w.heap ∧ But (· = r) w w1 ∧ (choose (Question.mapNext L.size)).run P w = .ok j w1 := by
      by_cases hf : L.size ≤ 1
      · exact ⟨0, w, by omega, rfl, But.refl _ _, by simp [choose, Sem.run, Question.forced, hf]⟩
      · exact ⟨_, w.drew, Nat.mod_lt _ (by omega), rfl, But.drew _, by
          simp only [choose, Sem.run, Question.forced, decide_eq_true_eq, hf, if_false, Question.cut]
          rfl⟩
    obtain ⟨j, w1, hj, hh, hb1, hrun⟩ := hch
    have hr1 : w1.heap[r]? = some (.mapIter (some M) clock seen clock) := by rw [hh]; exact h.it
    have hlt : r < w1.heap.size := (Array.getElem?_eq_some_iff.1 hr1).1
    refine ⟨L[j], { w1 with heap := w1.heap.setIfInBounds r (.mapIter (some M) clock (seen.push L[j].born) clock) }, by simp, ?_, ⟨?_, ?_⟩, ?_⟩
    · simp only [hrun, Array.getElem?_map, Array.getElem?_eq_getElem hj, Option.map_some, Sem.run_bind, setObj, Sem.run, hr1, Result.andThen]
      rfl
    · show (w1.heap.setIfInBounds r _)[M]? = _
      rw [Array.getElem?_setIfInBounds_ne (fun e => hne e.symm), hh]; exact h.map
    · exact Array.getElem?_setIfInBounds_self_of_lt hlt
    · exact hb1.trans ⟨rfl, rfl, rfl, by simp, fun i hi hO => Array.getElem?_setIfInBounds_ne (fun e => hO e.symm)⟩

theorem Rng.entry {w : World} {M r : Nat} {es : Array MapEntry} {clock : Nat} {seen : Array Nat} {e : MapEntry} (h : Rng w M r es clock (seen.push e.born)) (hbn : Born es clock) (he : e ∈ es.toList) :
    (Instr.entry (.pointer (some ⟨r, 0, none⟩))).run P w = .ok (.tuple #[e.key, e.val]) w := by
  have hf : es.find? (·.born == e.born) = some e := by rw [← Array.find?_toList]; exact find_born e es.toList hbn.2 he
  simp only [Instr.entry, getObj, Sem.run_bind, Sem.run, h.it, h.map, Result.andThen, Array.back?_push, bne_self_eq_false, Bool.false_eq_true, if_false, hf]
  rfl

theorem MapAt.range {k t e : TypeId} {w : World} {B : Nat} {ents : List (Value × Value)} (h : MapAt P k w B ents) (ht : P.underlying t = some (.map k e)) :
    ∃ es clock, w.heap[B]? = some (.map es clock) ∧ es.toList.map (fun e => (e.key, e.val)) = ents ∧ Born es clock ∧
      (Instr.range t (.map (some B))).run P w = .ok (.pointer (some ⟨w.heap.size, 0, none⟩)) (w.alloc (.mapIter (some B) clock #[] clock)) := by
  obtain ⟨es, clock, hb, he, hbn⟩ := h.ex
  exact ⟨es, clock, hb, he, hbn, run_range_map w t k e B es clock ht hb⟩
end
end Go.Proofs.Ytfoncaamhleckaa
