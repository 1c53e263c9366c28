/-
  A map of one's own, as the list of its entries: look-up, update at a new key. Its keys' type goes by the library's bundle Keyed; its elements are whatever.
-/
import Derived.Test.YtfoncaamhleckaaIter
import Derived.Maps.Keyed
import Derived.MapKept
import Derived.DeepKeys4
namespace Go.Proofs.Ytfoncaamhleckaa
open Go.RowKit Go.Maps

section
variable {P : Program} {k : TypeId}

def Born (es : Array MapEntry) (clock : Nat) : Prop := (∀ e ∈ es.toList, e.born < clock) ∧ (es.toList.map (·.born)).Nodup
theorem Born.nil (c : Nat) : Born #[] c := ⟨fun e he => by simp at he, by simp⟩
theorem Born.push {es : Array MapEntry} {c : Nat} (h : Born es c) (x v : Value) : Born (es.push ⟨x, v, c⟩) (c + 1) := by
  refine ⟨fun e he => ?_, ?_⟩
  · rw [Array.toList_push] at he
    rcases List.mem_append.1 he with he | he
    · have := h.1 e he; omega
    · rw [List.mem_singleton.1 he]; exact Nat.lt_succ_self c
  · rw [Array.toList_push, List.map_append, List.nodup_append]
    refine ⟨h.2, by simp, fun a ha b hb e => ?_⟩
    obtain ⟨y, hy, rfl⟩ := List.mem_map.1 ha
    have := h.1 y hy
    simp at hb
    omega
theorem Born.of_borns {es es' : Array MapEntry} {c : Nat} (h : Born es c) (e : es'.toList.map (·.born) = es.toList.map (·.born)) : Born es' c := by
  refine ⟨fun x hx => ?_, by rw [e]; exact h.2⟩
  have : x.born ∈ es.toList.map (·.born) := by rw [← e]; exact List.mem_map.2 ⟨x, hx, rfl⟩
  obtain ⟨y, hy, hxy⟩ := List.mem_map.1 this
  rw [← hxy]; exact h.1 y hy
theorem Born.modify {es : Array MapEntry} {c : Nat} (h : Born es c) (j : Nat) (x v : Value) : Born (es.modify j fun e => { e with key := x, val := v }) c := by
  refine h.of_borns (List.ext_getElem? fun i => ?_)
  rw [List.getElem?_map, Array.getElem?_toList, Array.getElem?_modify, List.getElem?_map, Array.getElem?_toList]
  split
  · cases es[i]? <;> rfl
  · rfl
theorem Born.erase {es : Array MapEntry} {c : Nat} (h : Born es c) (j : Nat) : Born (es.eraseIdxIfInBounds j) c := by
  have hs : (es.eraseIdxIfInBounds j).toList.Sublist es.toList := by
    rw [Array.toList_eraseIdxIfInBounds]; exact List.eraseIdx_sublist _ _
  exact ⟨fun e he => h.1 e (hs.subset he), (hs.map (·.born)).nodup h.2⟩

structure MapAt (P : Program) (k : TypeId) (w : World) (B : Nat) (ents : List (Value × Value)) : Prop where
  ex : ∃ es clock, w.heap[B]? = some (.map es clock) ∧ es.toList.map (fun e => (e.key, e.val)) = ents ∧ Born es clock
  keys : ∀ p ∈ ents, ∃ l, keyOf P k p.1 = some l
  one : (ents.map (·.1)).Nodup

theorem MapAt.lt {w : World} {B : Nat} {ents : List (Value × Value)} (h : MapAt P k w B ents) : B < w.heap.size := by
  obtain ⟨es, clock, hb, _⟩ := h.ex
  exact (Array.getElem?_eq_some_iff.1 hb).1
theorem MapAt.heap {w w' : World} {B : Nat} {ents : List (Value × Value)} (h : MapAt P k w B ents) (e : w'.heap[B]? = w.heap[B]?) : MapAt P k w' B ents := by
  obtain ⟨es, clock, hb, he, hbn⟩ := h.ex
  exact ⟨⟨es, clock, e.trans hb, he, hbn⟩, h.keys, h.one⟩
theorem MapAt.new (w : World) : MapAt P k (w.alloc (.map #[] 0)) w.heap.size [] := ⟨⟨#[], 0, heap_alloc_new w _, rfl, Born.nil 0⟩, fun p hp => (by cases hp), List.nodup_nil⟩

theorem MapAt.look_none {w : World} {B : Nat} {ents : List (Value × Value)} (h : MapAt P k w B ents) (K : Keyed P k) {t e : TypeId} (ht : P.underlying t = some (.map k e)) {z : Value} (hz : (zeroValue e).run P w = .ok z w)
    {x : Value} {l : Lit} (hx : keyOf P k x = some l) (hn : ∀ p ∈ ents, p.1 ≠ x) (c : Bool) :
    (Instr.lookup t (.map (some B)) x c).run P w = .ok (if c then .tuple #[z, .bool false] else z) w := by
  obtain ⟨es, clock, hb, he, hbn⟩ := h.ex
  have hks : ∀ e ∈ es.toList, ∃ l, keyOf P k e.key = some l := fun e hm => h.keys (e.key, e.val) (by rw [← he]; exact List.mem_map.2 ⟨e, hm, rfl⟩)
  rcases K.find w hx es.toList hks with ⟨h1, h2⟩ | ⟨j, e0, h1, h2, h3⟩
  · simp [Instr.lookup, run_underlying ht, MapKept.run_getObj_map hb, K.check w _ hx, h1, hz, Result.andThen]
  · exact absurd h3 (hn (e0.key, e0.val) (by rw [← he]; exact List.mem_map.2 ⟨e0, List.mem_of_getElem? h2, rfl⟩))

theorem MapAt.look_some {w : World} {B : Nat} {ents : List (Value × Value)} (h : MapAt P k w B ents) (K : Keyed P k) {t e : TypeId} (ht : P.underlying t = some (.map k e))
    {x v : Value} {l : Lit} (hx : keyOf P k x = some l) (hm : (x, v) ∈ ents) (c : Bool) :
    (Instr.lookup t (.map (some B)) x c).run P w = .ok (if c then .tuple #[v, .bool true] else v) w := by
  obtain ⟨es, clock, hb, he, hbn⟩ := h.ex
  have hks : ∀ e ∈ es.toList, ∃ l, keyOf P k e.key = some l := fun e hm => h.keys (e.key, e.val) (by rw [← he]; exact List.mem_map.2 ⟨e, hm, rfl⟩)
  rcases K.find w hx es.toList hks with ⟨h1, h2⟩ | ⟨j, e0, h1, h2, h3⟩
  · rw [← he] at hm
    obtain ⟨e1, hm1, e2⟩ := List.mem_map.1 hm
    exact absurd (congrArg Prod.fst e2) (h2 e1 hm1)
  · have h4 : (e0.key, e0.val) ∈ ents := by rw [← he]; exact List.mem_map.2 ⟨e0, List.mem_of_getElem? h2, rfl⟩
    have hv : e0.val = v := by
      have hone := h.one
      rw [h3] at h4
      clear he h1 h2 h3 hks hb h
      induction ents with
      | nil => cases hm
      | cons p r ih =>
        simp only [List.map_cons, List.nodup_cons] at hone
        rcases List.mem_cons.1 hm with e1 | e1 <;> rcases List.mem_cons.1 h4 with e2 | e2
        · exact congrArg Prod.snd (e2.trans e1.symm)
        · exact absurd (List.mem_map.2 ⟨_, e2, rfl⟩) (by rw [← e1] at hone; exact hone.1)
        · exact absurd (List.mem_map.2 ⟨_, e1, rfl⟩) (by rw [← e2] at hone; exact hone.1)
        · exact ih e1 e2 hone.2
    simp [Instr.lookup, run_underlying ht, MapKept.run_getObj_map hb, K.check w _ hx, h1, Result.andThen, hv]

theorem MapAt.put_new {w : World} {B : Nat} {ents : List (Value × Value)} (h : MapAt P k w B ents) (K : Keyed P k) {t e : TypeId} (ht : P.underlying t = some (.map k e))
    {x v : Value} {l : Lit} (hx : keyOf P k x = some l) (hn : ∀ p ∈ ents, p.1 ≠ x) :
    ∃ w', (Instr.mapUpdate t (.map (some B)) x v).run P w = .ok () w' ∧ MapAt P k w' B (ents ++ [(x, v)]) ∧ But (· = B) w w' := by
  obtain ⟨es, clock, hb, he, hbn⟩ := h.ex
  have hks : ∀ e ∈ es.toList, ∃ l, keyOf P k e.key = some l := fun e hm => h.keys (e.key, e.val) (by rw [← he]; exact List.mem_map.2 ⟨e, hm, rfl⟩)
  rcases K.find w hx es.toList hks with ⟨h1, h2⟩ | ⟨j, e0, h1, h2, h3⟩
  · refine ⟨{ w with heap := w.heap.setIfInBounds B (.map (es.push ⟨x, v, clock⟩) (clock + 1)) }, ?_, ⟨⟨es.push ⟨x, v, clock⟩, clock + 1, ?_, ?_, hbn.push x v⟩, ?_, ?_⟩, ?_⟩
    · simp [Instr.mapUpdate, run_underlying ht, MapKept.run_getObj_map hb, K.check w false hx, h1, MapKept.run_setObj_map _ hb, Result.andThen]
    · exact Array.getElem?_setIfInBounds_self_of_lt h.lt
    · rw [Array.toList_push, List.map_append, he]; rfl
    · intro p hp
      rcases List.mem_append.1 hp with hp | hp
      · exact h.keys p hp
      · rw [List.mem_singleton.1 hp]; exact ⟨l, hx⟩
    · rw [List.map_append, List.nodup_append]
      refine ⟨h.one, by simp, fun a ha b hb' e => ?_⟩
      obtain ⟨p, hp, rfl⟩ := List.mem_map.1 ha
      simp at hb'
      exact hn p hp (e.trans hb')
    · exact ⟨rfl, rfl, rfl, by simp, fun i hi hne => Array.getElem?_setIfInBounds_ne (fun e => hne e.symm)⟩
  · exact absurd h3 (hn (e0.key, e0.val) (by rw [← he]; exact List.mem_map.2 ⟨e0, List.mem_of_getElem? h2, rfl⟩))

/-- The operations. -/
theorem wpList_look {ops : Array Oper} {rest : List Oper} {o : Oper} {a : Act} {w : World} {Q : Exit → Act → World → Prop} (hgd : o.guard = none) (t : TypeId) (m i : Operand) (c : Bool) (ho : o.op = .lookup t m i c)
    {mv iv v : Value} (hm : a.eval m = mv) (hi : a.eval i = iv) (hr : (Instr.lookup t mv iv c).run P w = .ok v w) (h : wpList P ops Q rest (a.put o.dst v) w) : wpList P ops Q (o :: rest) a w :=
  wpList_plain hgd fun _ hK => by
    unfold Oper.wp execOp
    simp only [ho, hm, hi, Sem.run_bind, Sem.run_pure, Result.andThen_ok, hr]
    exact hK _ _ h
end
end Go.Proofs.Ytfoncaamhleckaa
