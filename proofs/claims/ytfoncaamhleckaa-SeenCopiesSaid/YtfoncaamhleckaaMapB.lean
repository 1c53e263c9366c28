/-
  A map of one's own: an entry renewed, an entry let go, how many there are.
-/
import Derived.Test.YtfoncaamhleckaaMap
namespace Go.Proofs.Ytfoncaamhleckaa
open Go.RowKit Go.Maps
set_option linter.unusedVariables false

section
variable {P : Program} {k : TypeId}

theorem erase_map {α β : Type} (f : α → β) : ∀ (l : List α) (j : Nat), (l.eraseIdx j).map f = (l.map f).eraseIdx j
  | [], _ => rfl
  | _ :: _, 0 => rfl
  | x :: l, j + 1 => by rw [List.eraseIdx_cons_succ, List.map_cons, List.map_cons, List.eraseIdx_cons_succ, erase_map f l j]
theorem at_once {α β : Type} {es0 bs : List (α × β)} {p q : α × β} {j : Nat} (hn : ((es0 ++ p :: bs).map (·.1)).Nodup) (hj : (es0 ++ p :: bs)[j]? = some q) (hq : q.1 = p.1) : j = es0.length := by
  rw [List.map_append, List.map_cons, List.nodup_append] at hn
  obtain ⟨h1, h2, h3⟩ := hn
  rcases Nat.lt_trichotomy j es0.length with h | h | h
  · rw [List.getElem?_append_left h] at hj
    exact absurd hq (h3 _ (List.mem_map.2 ⟨q, List.mem_of_getElem? hj, rfl⟩) _ (by simp))
  · exact h
  · rw [List.getElem?_append_right (by omega), show j - es0.length = (j - es0.length - 1) + 1 by omega, List.getElem?_cons_succ] at hj
    rw [List.nodup_cons] at h2
    exact absurd (List.mem_map.2 ⟨q, List.mem_of_getElem? hj, hq⟩) h2.1

theorem MapAt.put_old {w : World} {B : Nat} {es0 bs : List (Value × Value)} {x v0 : Value} (h : MapAt P k w B (es0 ++ (x, v0) :: bs)) (K : Keyed P k) {t e : TypeId} (ht : P.underlying t = some (.map k e)) {v : Value} {l : Lit} (hx : keyOf P k x = some l) :
    ∃ w', (Instr.mapUpdate t (.map (some B)) x v).run P w = .ok () w' ∧ MapAt P k w' B (es0 ++ (x, v) :: bs) ∧ But (· = B) w w' := by
  obtain ⟨es, clock, hb, he, hbn⟩ := h.ex
  have hks : ∀ e ∈ es.toList, ∃ l, keyOf P k e.key = some l := fun e hm => h.keys (e.key, e.val) (by rw [← he]; exact List.mem_map.2 ⟨e, hm, rfl⟩)
  rcases K.find w hx es.toList hks with ⟨h1, h2⟩ | ⟨j, e0, h1, h2, h3⟩
  · have : (x, v0) ∈ es.toList.map (fun e => (e.key, e.val)) := by rw [he]; simp
    obtain ⟨e1, hm1, e2⟩ := List.mem_map.1 this
    exact absurd (congrArg Prod.fst e2) (h2 e1 hm1)
  · have hj : (es0 ++ (x, v0) :: bs)[j]? = some (e0.key, e0.val) := by rw [← he, List.getElem?_map, h2]; rfl
    have hja := at_once h.one hj h3
    have h2' : es[j]? = some e0 := by simpa using h2
    have hs := K.stays w hx
    refine ⟨{ w with heap := w.heap.setIfInBounds B (.map (es.modify j fun e => { e with key := x, val := v }) clock) }, ?_, ⟨⟨_, clock, Array.getElem?_setIfInBounds_self_of_lt h.lt, ?_, hbn.modify j x v⟩, ?_, ?_⟩, ?_⟩
    · simp [Instr.mapUpdate, run_underlying ht, MapKept.run_getObj_map hb, K.check w false hx, h1, h2', h3, hs, MapKept.run_setObj_map _ hb, Result.andThen]
    · refine List.ext_getElem? fun i => ?_
      rw [List.getElem?_map, Array.getElem?_toList, Array.getElem?_modify]
      have hi : (es0 ++ (x, v0) :: bs)[i]? = es[i]?.map (fun e => (e.key, e.val)) := by rw [← he, List.getElem?_map, Array.getElem?_toList]
      by_cases hij : j = i
      · rw [if_pos hij, ← hij, h2']
        rw [List.getElem?_append_right (by omega), show j - es0.length = 0 by omega]
        rfl
      · rw [if_neg hij, ← hi]
        rcases Nat.lt_or_ge i es0.length with h4 | h4
        · rw [List.getElem?_append_left h4, List.getElem?_append_left h4]
        · rw [List.getElem?_append_right h4, List.getElem?_append_right h4, show i - es0.length = (i - es0.length - 1) + 1 by omega]
          rfl
    · intro p hp
      rcases List.mem_append.1 hp with hp | hp
      · exact h.keys p (by simp [hp])
      · rcases List.mem_cons.1 hp with rfl | hp
        · exact ⟨l, hx⟩
        · exact h.keys p (by simp [hp])
    · have := h.one
      rw [List.map_append, List.map_cons] at this ⊢
      exact this
    · exact ⟨rfl, rfl, rfl, by simp, fun i hi hne => Array.getElem?_setIfInBounds_ne (fun e => hne e.symm)⟩

theorem MapAt.del {w : World} {B : Nat} {es0 bs : List (Value × Value)} {x v0 : Value} (h : MapAt P k w B (es0 ++ (x, v0) :: bs)) (K : Keyed P k) {t e : TypeId} (ht : P.underlying t = some (.map k e)) {l : Lit} (hx : keyOf P k x = some l) (kt ty : TypeId) :
    ∃ w', (Builtin.delete_ #[t, kt] ty #[.map (some B), x]).run P w = .ok (.tuple #[]) w' ∧ MapAt P k w' B (es0 ++ bs) ∧ But (· = B) w w' := by
  obtain ⟨es, clock, hb, he, hbn⟩ := h.ex
  have hks : ∀ e ∈ es.toList, ∃ l, keyOf P k e.key = some l := fun e hm => h.keys (e.key, e.val) (by rw [← he]; exact List.mem_map.2 ⟨e, hm, rfl⟩)
  rcases K.find w hx es.toList hks with ⟨h1, h2⟩ | ⟨j, e0, h1, h2, h3⟩
  · have : (x, v0) ∈ es.toList.map (fun e => (e.key, e.val)) := by rw [he]; simp
    obtain ⟨e1, hm1, e2⟩ := List.mem_map.1 this
    exact absurd (congrArg Prod.fst e2) (h2 e1 hm1)
  · have hj : (es0 ++ (x, v0) :: bs)[j]? = some (e0.key, e0.val) := by rw [← he, List.getElem?_map, h2]; rfl
    have hja := at_once h.one hj h3
    refine ⟨{ w with heap := w.heap.setIfInBounds B (.map (es.eraseIdxIfInBounds j) clock) }, ?_, ⟨⟨_, clock, Array.getElem?_setIfInBounds_self_of_lt h.lt, ?_, hbn.erase j⟩, ?_, ?_⟩, ?_⟩
    · simp [Builtin.delete_, run_underlying ht, MapKept.run_getObj_map hb, K.check w _ hx, h1, MapKept.run_setObj_map _ hb, Result.andThen]
    · rw [Array.toList_eraseIdxIfInBounds, erase_map, he, hja]
      rw [List.eraseIdx_append_of_length_le (Nat.le_refl _), Nat.sub_self]; rfl
    · intro p hp
      exact h.keys p (by rcases List.mem_append.1 hp with hp | hp <;> simp [hp])
    · have := h.one
      rw [List.map_append, List.map_cons, List.nodup_append, List.nodup_cons] at this
      rw [List.map_append, List.nodup_append]
      exact ⟨this.1, this.2.1.2, fun a ha b hb' => this.2.2 a ha b (by simp [hb'])⟩
    · exact ⟨rfl, rfl, rfl, by simp, fun i hi hne => Array.getElem?_setIfInBounds_ne (fun e => hne e.symm)⟩

theorem MapAt.len {w : World} {B : Nat} {ents : List (Value × Value)} (h : MapAt P k w B ents) {t e : TypeId} (ht : P.underlying t = some (.map k e)) (ty : TypeId) :
    (Builtin.len_ #[t] ty #[.map (some B)]).run P w = .ok (.int .i64 ents.length) w := by
  obtain ⟨es, clock, hb, he, hbn⟩ := h.ex
  have : es.size = ents.length := by rw [← he]; simp
  simp [Builtin.len_, run_underlying ht, MapKept.run_getObj_map hb, goInt, this]
end
end Go.Proofs.Ytfoncaamhleckaa
