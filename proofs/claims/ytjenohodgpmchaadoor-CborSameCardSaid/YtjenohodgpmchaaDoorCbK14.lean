/-
  Map, MapB, PiO: several texts in one (bundle.py).
-/
import Derived.Test.YtjenohodgpmchaaDoorCbK04
import Derived.Maps.Keyed
import Derived.MapKept
import Derived.DeepKeys4
import Derived.Test.YtjenohodgpmchaaDoorCbK03
namespace Go.Proofs.YtjenohodgpmchaaDoor
open Go.RowKit Go.Maps

section
variable {P : Program} {k : TypeId}

def Born (es : Array MapEntry) (clock : Nat) : Prop := (∀ e ∈ es.toList, e.born < clock) ∧ (es.toList.map (·.born)).Nodup
theorem Born.nil (c : Nat) : Born #[] c := ⟨fun e he => by simp at he, by simp⟩
theorem Born.push {es : Array MapEntry} {c : Nat} (h : Born es c) (x v : Value) : Born (es.push ⟨x, v, c⟩) (c + 1) := by
  refine ⟨fun e he => ?_, ?_⟩
  · rw [Array.toList_push] at he
    rcases List.mem_append.1 he with he | he
    · have := h.1 e he; omega
    · rw [List.mem_singleton.1 he]; exact Nat.lt_succ_self c
  · rw [Array.toList_push, List.map_append, List.nodup_append]
    refine ⟨h.2, by simp, fun a ha b hb e => ?_⟩
    obtain ⟨y, hy, rfl⟩ := List.mem_map.1 ha
    have := h.1 y hy
    simp at hb
    omega
theorem Born.of_borns {es es' : Array MapEntry} {c : Nat} (h : Born es c) (e : es'.toList.map (·.born) = es.toList.map (·.born)) : Born es' c := by
  refine ⟨fun x hx => ?_, by rw [e]; exact h.2⟩
  have : x.born ∈ es.toList.map (·.born) := by rw [← e]; exact List.mem_map.2 ⟨x, hx, rfl⟩
  obtain ⟨y, hy, hxy⟩ := List.mem_map.1 this
  rw [← hxy]; exact h.1 y hy
theorem Born.modify {es : Array MapEntry} {c : Nat} (h : Born es c) (j : Nat) (x v : Value) : Born (es.modify j fun e => { e with key := x, val := v }) c := by
  refine h.of_borns (List.ext_getElem? fun i => ?_)
  rw [List.getElem?_map, Array.getElem?_toList, Array.getElem?_modify, List.getElem?_map, Array.getElem?_toList]
  split
  · cases es[i]? <;> rfl
  · rfl
theorem Born.erase {es : Array MapEntry} {c : Nat} (h : Born es c) (j : Nat) : Born (es.eraseIdxIfInBounds j) c := by
  have hs : (es.eraseIdxIfInBounds j).toList.Sublist es.toList := by
    rw [Array.toList_eraseIdxIfInBounds]; exact List.eraseIdx_sublist _ _
  exact ⟨fun e he => h.1 e (hs.subset he), (hs.map (·.born)).nodup h.2⟩

structure MapAt (P : Program) (k : TypeId) (w : World) (B : Nat) (ents : List (Value × Value)) : Prop where
  ex : ∃ es clock, w.heap[B]? = some (.map es clock) ∧ es.toList.map (fun e => (e.key, e.val)) = ents ∧ Born es clock
  keys : ∀ p ∈ ents, ∃ l, keyOf P k p.1 = some l
  one : (ents.map (·.1)).Nodup

theorem MapAt.lt {w : World} {B : Nat} {ents : List (Value × Value)} (h : MapAt P k w B ents) : B < w.heap.size := by
  obtain ⟨es, clock, hb, _⟩ := h.ex
  exact (Array.getElem?_eq_some_iff.1 hb).1
theorem MapAt.heap {w w' : World} {B : Nat} {ents : List (Value × Value)} (h : MapAt P k w B ents) (e : w'.heap[B]? = w.heap[B]?) : MapAt P k w' B ents := by
  obtain ⟨es, clock, hb, he, hbn⟩ := h.ex
  exact ⟨⟨es, clock, e.trans hb, he, hbn⟩, h.keys, h.one⟩
theorem MapAt.new (w : World) : MapAt P k (w.alloc (.map #[] 0)) w.heap.size [] := ⟨⟨#[], 0, heap_alloc_new w _, rfl, Born.nil 0⟩, fun p hp => (by cases hp), List.nodup_nil⟩

theorem MapAt.look_none {w : World} {B : Nat} {ents : List (Value × Value)} (h : MapAt P k w B ents) (K : Keyed P k) {t e : TypeId} (ht : P.underlying t = some (.map k e)) {z : Value} (hz : (zeroValue e).run P w = .ok z w)
    {x : Value} {l : Lit} (hx : keyOf P k x = some l) (hn : ∀ p ∈ ents, p.1 ≠ x) (c : Bool) :
    (Instr.lookup t (.map (some B)) x c).run P w = .ok (if c then .tuple #[z, .bool false] else z) w := by
  obtain ⟨es, clock, hb, he, hbn⟩ := h.ex
  have hks : ∀ e ∈ es.toList, ∃ l, keyOf P k e.key = some l := fun e hm => h.keys (e.key, e.val) (by rw [← he]; exact List.mem_map.2 ⟨e, hm, rfl⟩)
  rcases K.find w hx es.toList hks with ⟨h1, h2⟩ | ⟨j, e0, h1, h2, h3⟩
  · simp [Instr.lookup, run_underlying ht, MapKept.run_getObj_map hb, K.check w _ hx, h1, hz, Result.andThen]
  · exact absurd h3 (hn (e0.key, e0.val) (by rw [← he]; exact List.mem_map.2 ⟨e0, List.mem_of_getElem? h2, rfl⟩))

theorem MapAt.look_some {w : World} {B : Nat} {ents : List (Value × Value)} (h : MapAt P k w B ents) (K : Keyed P k) {t e : TypeId} (ht : P.underlying t = some (.map k e))
    {x v : Value} {l : Lit} (hx : keyOf P k x = some l) (hm : (x, v) ∈ ents) (c : Bool) :
    (Instr.lookup t (.map (some B)) x c).run P w = .ok (if c then .tuple #[v, .bool true] else v) w := by
  obtain ⟨es, clock, hb, he, hbn⟩ := h.ex
  have hks : ∀ e ∈ es.toList, ∃ l, keyOf P k e.key = some l := fun e hm => h.keys (e.key, e.val) (by rw [← he]; exact List.mem_map.2 ⟨e, hm, rfl⟩)
  rcases K.find w hx es.toList hks with ⟨h1, h2⟩ | ⟨j, e0, h1, h2, h3⟩
  · rw [← he] at hm
    obtain ⟨e1, hm1, e2⟩ := List.mem_map.1 hm
    exact absurd (congrArg Prod.fst e2) (h2 e1 hm1)
  · have h4 : (e0.key, e0.val) ∈ ents := by rw [← he]; exact List.mem_map.2 ⟨e0, List.mem_of_getElem? h2, rfl⟩
    have hv : e0.val = v := by
      have hone := h.one
      rw [h3] at h4
      clear he h1 h2 h3 hks hb h
      induction ents with
      | nil => cases hm
      | cons p r ih =>
        simp only [List.map_cons, List.nodup_cons] at hone
        rcases List.mem_cons.1 hm with e1 | e1 <;> rcases List.mem_cons.1 h4 with e2 | e2
        · exact congrArg Prod.snd (e2.trans e1.symm)
        · exact absurd (List.mem_map.2 ⟨_, e2, rfl⟩) (by rw [← e1] at hone; exact hone.1)
        · exact absurd (List.mem_map.2 ⟨_, e1, rfl⟩) (by rw [← e2] at hone; exact hone.1)
        · exact ih e1 e2 hone.2
    simp [Instr.lookup, run_underlying ht, MapKept.run_getObj_map hb, K.check w _ hx, h1, Result.andThen, hv]

theorem MapAt.put_new {w : World} {B : Nat} {ents : List (Value × Value)} (h : MapAt P k w B ents) (K : Keyed P k) {t e : TypeId} (ht : P.underlying t = some (.map k e))
    {x v : Value} {l : Lit} (hx : keyOf P k x = some l) (hn : ∀ p ∈ ents, p.1 ≠ x) :
    ∃ w', (Instr.mapUpdate t (.map (some B)) x v).run P w = .ok () w' ∧ MapAt P k w' B (ents ++ [(x, v)]) ∧ But (· = B) w w' := by
  obtain ⟨es, clock, hb, he, hbn⟩ := h.ex
  have hks : ∀ e ∈ es.toList, ∃ l, keyOf P k e.key = some l := fun e hm => h.keys (e.key, e.val) (by rw [← he]; exact List.mem_map.2 ⟨e, hm, rfl⟩)
  rcases K.find w hx es.toList hks with ⟨h1, h2⟩ | ⟨j, e0, h1, h2, h3⟩
  · refine ⟨{ w with heap := w.heap.setIfInBounds B (.map (es.push ⟨x, v, clock⟩) (clock + 1)) }, ?_, ⟨⟨es.push ⟨x, v, clock⟩, clock + 1, ?_, ?_, hbn.push x v⟩, ?_, ?_⟩, ?_⟩
    · simp [Instr.mapUpdate, run_underlying ht, MapKept.run_getObj_map hb, K.check w false hx, h1, MapKept.run_setObj_map _ hb, Result.andThen]
    · exact Array.getElem?_setIfInBounds_self_of_lt h.lt
    · rw [Array.toList_push, List.map_append, he]; rfl
    · intro p hp
      rcases List.mem_append.1 hp with hp | hp
      · exact h.keys p hp
      · rw [List.mem_singleton.1 hp]; exact ⟨l, hx⟩
    · rw [List.map_append, List.nodup_append]
      refine ⟨h.one, by simp, fun a ha b hb' e => ?_⟩
      obtain ⟨p, hp, rfl⟩ := List.mem_map.1 ha
      simp at hb'
      exact hn p hp (e.trans hb')
    · exact ⟨rfl, rfl, rfl, by simp, fun i hi hne => Array.getElem?_setIfInBounds_ne (fun e => hne e.symm)⟩
  · exact absurd h3 (hn (e0.key, e0.val) (by rw [← he]; exact List.mem_map.2 ⟨e0, List.mem_of_getElem? h2, rfl⟩))

/-- The operations. -/
theorem wpList_look {ops : Array Oper} {rest : List Oper} {o : Oper} {a : Act} {w : World} {Q : Exit → Act → World → Prop} (hgd : o.guard = none) (t : TypeId) (m i : Operand) (c : Bool) (ho : o.op = .lookup t m i c)
    {mv iv v : Value} (hm : a.eval m = mv) (hi : a.eval i = iv) (hr : (Instr.lookup t mv iv c).run P w = .ok v w) (h : wpList P ops Q rest (a.put o.dst v) w) : wpList P ops Q (o :: rest) a w :=
  wpList_plain hgd fun _ hK => by
    unfold Oper.wp execOp
    simp only [ho, hm, hi, Sem.run_bind, Sem.run_pure, Result.andThen_ok, hr]
    exact hK _ _ h
end
end Go.Proofs.YtjenohodgpmchaaDoor

namespace Go.Proofs.YtjenohodgpmchaaDoor
open Go.RowKit Go.Maps
set_option linter.unusedVariables false

section
variable {P : Program} {k : TypeId}

theorem erase_map {α β : Type} (f : α → β) : ∀ (l : List α) (j : Nat), (l.eraseIdx j).map f = (l.map f).eraseIdx j
  | [], _ => rfl
  | _ :: _, 0 => rfl
  | x :: l, j + 1 => by rw [List.eraseIdx_cons_succ, List.map_cons, List.map_cons, List.eraseIdx_cons_succ, erase_map f l j]
theorem at_once {α β : Type} {es0 bs : List (α × β)} {p q : α × β} {j : Nat} (hn : ((es0 ++ p :: bs).map (·.1)).Nodup) (hj : (es0 ++ p :: bs)[j]? = some q) (hq : q.1 = p.1) : j = es0.length := by
  rw [List.map_append, List.map_cons, List.nodup_append] at hn
  obtain ⟨h1, h2, h3⟩ := hn
  rcases Nat.lt_trichotomy j es0.length with h | h | h
  · rw [List.getElem?_append_left h] at hj
    exact absurd hq (h3 _ (List.mem_map.2 ⟨q, List.mem_of_getElem? hj, rfl⟩) _ (by simp))
  · exact h
  · rw [List.getElem?_append_right (by omega), show j - es0.length = (j - es0.length - 1) + 1 by omega, List.getElem?_cons_succ] at hj
    rw [List.nodup_cons] at h2
    exact absurd (List.mem_map.2 ⟨q, List.mem_of_getElem? hj, hq⟩) h2.1

theorem MapAt.put_old {w : World} {B : Nat} {es0 bs : List (Value × Value)} {x v0 : Value} (h : MapAt P k w B (es0 ++ (x, v0) :: bs)) (K : Keyed P k) {t e : TypeId} (ht : P.underlying t = some (.map k e)) {v : Value} {l : Lit} (hx : keyOf P k x = some l) :
    ∃ w', (Instr.mapUpdate t (.map (some B)) x v).run P w = .ok () w' ∧ MapAt P k w' B (es0 ++ (x, v) :: bs) ∧ But (· = B) w w' := by
  obtain ⟨es, clock, hb, he, hbn⟩ := h.ex
  have hks : ∀ e ∈ es.toList, ∃ l, keyOf P k e.key = some l := fun e hm => h.keys (e.key, e.val) (by rw [← he]; exact List.mem_map.2 ⟨e, hm, rfl⟩)
  rcases K.find w hx es.toList hks with ⟨h1, h2⟩ | ⟨j, e0, h1, h2, h3⟩
  · have : (x, v0) ∈ es.toList.map (fun e => (e.key, e.val)) := by rw [he]; simp
    obtain ⟨e1, hm1, e2⟩ := List.mem_map.1 this
    exact absurd (congrArg Prod.fst e2) (h2 e1 hm1)
  · have hj : (es0 ++ (x, v0) :: bs)[j]? = some (e0.key, e0.val) := by rw [← he, List.getElem?_map, h2]; rfl
    have hja := at_once h.one hj h3
    have h2' : es[j]? = some e0 := by simpa using h2
    have hs := K.stays w hx
    refine ⟨{ w with heap := w.heap.setIfInBounds B (.map (es.modify j fun e => { e with key := x, val := v }) clock) }, ?_, ⟨⟨_, clock, Array.getElem?_setIfInBounds_self_of_lt h.lt, ?_, hbn.modify j x v⟩, ?_, ?_⟩, ?_⟩
    · simp [Instr.mapUpdate, run_underlying ht, MapKept.run_getObj_map hb, K.check w false hx, h1, h2', h3, hs, MapKept.run_setObj_map _ hb, Result.andThen]
    · refine List.ext_getElem? fun i => ?_
      rw [List.getElem?_map, Array.getElem?_toList, Array.getElem?_modify]
      have hi : (es0 ++ (x, v0) :: bs)[i]? = es[i]?.map (fun e => (e.key, e.val)) := by rw [← he, List.getElem?_map, Array.getElem?_toList]
      by_cases hij : j = i
      · rw [if_pos hij, ← hij, h2']
        rw [List.getElem?_append_right (by omega), show j - es0.length = 0 by omega]
        rfl
      · rw [if_neg hij, ← hi]
        rcases Nat.lt_or_ge i es0.length with h4 | h4
        · rw [List.getElem?_append_left h4, List.getElem?_append_left h4]
        · rw [List.getElem?_append_right h4, List.getElem?_append_right h4, show i - es0.length = (i - es0.length - 1) + 1 by omega]
          rfl
    · intro p hp
      rcases List.mem_append.1 hp with hp | hp
      · exact h.keys p (by simp [hp])
      · rcases List.mem_cons.1 hp with rfl | hp
        · exact ⟨l, hx⟩
        · exact h.keys p (by simp [hp])
    · have := h.one
      rw [List.map_append, List.map_cons] at this ⊢
      exact this
    · exact ⟨rfl, rfl, rfl, by simp, fun i hi hne => Array.getElem?_setIfInBounds_ne (fun e => hne e.symm)⟩

theorem MapAt.del {w : World} {B : Nat} {es0 bs : List (Value × Value)} {x v0 : Value} (h : MapAt P k w B (es0 ++ (x, v0) :: bs)) (K : Keyed P k) {t e : TypeId} (ht : P.underlying t = some (.map k e)) {l : Lit} (hx : keyOf P k x = some l) (kt ty : TypeId) :
    ∃ w', (Builtin.delete_ #[t, kt] ty #[.map (some B), x]).run P w = .ok (.tuple #[]) w' ∧ MapAt P k w' B (es0 ++ bs) ∧ But (· = B) w w' := by
  obtain ⟨es, clock, hb, he, hbn⟩ := h.ex
  have hks : ∀ e ∈ es.toList, ∃ l, keyOf P k e.key = some l := fun e hm => h.keys (e.key, e.val) (by rw [← he]; exact List.mem_map.2 ⟨e, hm, rfl⟩)
  rcases K.find w hx es.toList hks with ⟨h1, h2⟩ | ⟨j, e0, h1, h2, h3⟩
  · have : (x, v0) ∈ es.toList.map (fun e => (e.key, e.val)) := by rw [he]; simp
    obtain ⟨e1, hm1, e2⟩ := List.mem_map.1 this
    exact absurd (congrArg Prod.fst e2) (h2 e1 hm1)
  · have hj : (es0 ++ (x, v0) :: bs)[j]? = some (e0.key, e0.val) := by rw [← he, List.getElem?_map, h2]; rfl
    have hja := at_once h.one hj h3
    refine ⟨{ w with heap := w.heap.setIfInBounds B (.map (es.eraseIdxIfInBounds j) clock) }, ?_, ⟨⟨_, clock, Array.getElem?_setIfInBounds_self_of_lt h.lt, ?_, hbn.erase j⟩, ?_, ?_⟩, ?_⟩
    · simp [Builtin.delete_, run_underlying ht, MapKept.run_getObj_map hb, K.check w _ hx, h1, MapKept.run_setObj_map _ hb, Result.andThen]
    · rw [Array.toList_eraseIdxIfInBounds, erase_map, he, hja]
      rw [List.eraseIdx_append_of_length_le (Nat.le_refl _), Nat.sub_self]; rfl
    · intro p hp
      exact h.keys p (by rcases List.mem_append.1 hp with hp | hp <;> simp [hp])
    · have := h.one
      rw [List.map_append, List.map_cons, List.nodup_append, List.nodup_cons] at this
      rw [List.map_append, List.nodup_append]
      exact ⟨this.1, this.2.1.2, fun a ha b hb' => this.2.2 a ha b (by simp [hb'])⟩
    · exact ⟨rfl, rfl, rfl, by simp, fun i hi hne => Array.getElem?_setIfInBounds_ne (fun e => hne e.symm)⟩

theorem MapAt.len {w : World} {B : Nat} {ents : List (Value × Value)} (h : MapAt P k w B ents) {t e : TypeId} (ht : P.underlying t = some (.map k e)) (ty : TypeId) :
    (Builtin.len_ #[t] ty #[.map (some B)]).run P w = .ok (.int .i64 ents.length) w := by
  obtain ⟨es, clock, hb, he, hbn⟩ := h.ex
  have : es.size = ents.length := by rw [← he]; simp
  simp [Builtin.len_, run_underlying ht, MapKept.run_getObj_map hb, goInt, this]
end
end Go.Proofs.YtjenohodgpmchaaDoor

namespace Go.Proofs.YtjenohodgpmchaaDoor
open Go.RowKit

section
variable {P : Program} {md : Region.Mode} {ops : Array Oper} {Q : Exit → Act → World → Prop} {O : Nat → Prop}

def wpPo (P : Program) (O : Nat → Prop) (ops : Array Oper) (Q : Exit → Act → World → Prop) : List (Nat × Bool) → Act → World → Prop
  | [], a, w => Q .normal a w
  | (i, false) :: r, a, w => ∃ o v, ops[i]? = some o ∧ YieldsIf P ops (But O w) o v a ∧ wpPo P O ops Q r (a.put o.dst v) w
  | (i, true) :: r, a, w => ∃ o, ops[i]? = some o ∧ Region.wanted o (yielded ops a.tmps) = true ∧ o.wp P a w (fun a' w' => But O w w' ∧ wpPo P O ops Q r a' w') Q

theorem held_of_po (hs : Region.noSelect ops = true) (hQ : ∀ c (a : Act) d v w, Q (.panic c) (a.put d v) w → Q (.panic c) a w) : ∀ (π : List (Nat × Bool)) (listed : Array Bool) (a : Act) (w : World),
    piB md ops π listed = true → wpPo P O ops Q π a w → wpAnyH P md ops Q (But O w) π.length listed a w
  | [], _, _, _, hB, h => ⟨by simpa [piB] using hB, h⟩
  | (i, false) :: r, listed, a, w, hB, h => by
    obtain ⟨o, v, hi, hy, h⟩ := h
    simp only [piB, Bool.and_eq_true] at hB
    exact wpAnyH_take hi hs hB.1.2 hB.1.1 (fun c a w hq => hQ c a o.dst v w hq) hy (But.refl _ _) (held_of_po hs hQ r _ _ _ hB.2 h)
  | (i, true) :: r, listed, a, w, hB, h => by
    obtain ⟨o, hi, hw, h⟩ := h
    simp only [piB, Bool.and_eq_true, decide_eq_true_eq] at hB
    refine ⟨fun h0 => (by rw [hB.1] at h0; cases h0), fun j hj => ?_⟩
    rw [hB.1] at hj
    obtain rfl : j = i := by simpa using hj
    unfold wpOp
    simp only [hi, hw, if_true]
    exact .inl (Oper.wp_mono (fun a' w' h' => ⟨h'.1, held_sub (fun _ hx => h'.1.trans hx) _ _ _ _ (held_of_po hs hQ r _ _ _ hB.2 h'.2)⟩) h)

theorem wp_region_po {id : Nat} {a : Act} {w : World} (O : Nat → Prop) (π : List (Nat × Bool)) (hm : P.follows .mixedOrders = true) (hs : Region.noSelect ops = true) (hB : piB .any ops π (Array.replicate ops.size false) = true) (hl : π.length = ops.size)
    (hQ : ∀ c (a : Act) d v w, Q (.panic c) (a.put d v) w → Q (.panic c) a w) (h : ∀ Wd, Below w.heap.size w Wd → wpPo P O ops Q π a Wd) : (Code.region id ops true).wp P Q a w :=
  wp_region_held (S := But O w.drew) hm (by have := held_of_po (md := .any) hs hQ π _ _ _ hB (h w.drew (Below.refl _ _).drew); rw [hl] at this; exact this)

theorem po_q {i : Nat} {o : Oper} {v : Value} {r : List (Nat × Bool)} {a : Act} {w : World} (hi : ops[i]? = some o) (hw : Region.wanted o (yielded ops a.tmps) = true) (hy : ∀ w', But O w w' → (execOp a.eval o).run P w' = .ok (.value v) w')
    (h : wpPo P O ops Q r (a.put o.dst v) w) : wpPo P O ops Q ((i, false) :: r) a w := ⟨o, v, hi, .inl ⟨hw, hy⟩, h⟩
theorem po_no {i : Nat} {o : Oper} {r : List (Nat × Bool)} {a : Act} {w : World} (hi : ops[i]? = some o) (hw : Region.wanted o (yielded ops a.tmps) = false)
    (h : wpPo P O ops Q r (a.put o.dst undef) w) : wpPo P O ops Q ((i, false) :: r) a w := ⟨o, undef, hi, .inr ⟨hw, rfl⟩, h⟩
theorem po_c {i : Nat} {o : Oper} {r : List (Nat × Bool)} {a : Act} {w : World} (hi : ops[i]? = some o) (hw : Region.wanted o (yielded ops a.tmps) = true)
    (h : ∀ K : Act → World → Prop, Shut (∀ a' w', But O w w' → wpPo P O ops Q r a' w' → K a' w') → o.wp P a w K Q) : wpPo P O ops Q ((i, true) :: r) a w :=
  ⟨o, hi, hw, h _ (fun _ _ h1 h2 => ⟨h1, h2⟩)⟩
theorem po_load {i : Nat} {o : Oper} {r : List (Nat × Bool)} {a : Act} {w : World} (hi : ops[i]? = some o) (hw : Region.wanted o (yielded ops a.tmps) = true)
    (ty : TypeId) (x : Operand) (ho : o.op = .load ty x) (b off : Nat) (hx : a.eval x = .pointer (some ⟨b, off, none⟩)) (cs : List Value) (d : TypeDesc) (hr : w.rangeAt b off cs) (hO : ¬ O b)
    (hu : P.underlying ty = some d) (hd : d.isRow = true) (hn : (P.info? ty).map (·.size) = some cs.length) (h : wpPo P O ops Q r (a.put o.dst (.agg cs.toArray)) w) : wpPo P O ops Q ((i, false) :: r) a w :=
  ⟨o, _, hi, yieldsIf_load_mid hw ty x ho b off hx cs d (fun _ hb j v hj => hb.cell (hr j v hj) hO) hu hd hn, h⟩
theorem po_look {i : Nat} {o : Oper} {v : Value} {r : List (Nat × Bool)} {a : Act} {w : World} (hi : ops[i]? = some o) (hw : Region.wanted o (yielded ops a.tmps) = true) (t : TypeId) (m x : Operand) (c : Bool) (ho : o.op = .lookup t m x c)
    {mv xv : Value} (hm : a.eval m = mv) (hx : a.eval x = xv) (hr : ∀ w', But O w w' → (Instr.lookup t mv xv c).run P w' = .ok v w')
    (h : wpPo P O ops Q r (a.put o.dst v) w) : wpPo P O ops Q ((i, false) :: r) a w :=
  po_q hi hw (fun w' hb => by unfold execOp; simp only [ho, hm, hx, Sem.run_bind, Sem.run_pure, Result.andThen_ok, hr w' hb]) h
theorem po_put {i : Nat} {o : Oper} {r : List (Nat × Bool)} {a : Act} {w w' : World} (hi : ops[i]? = some o) (hw : Region.wanted o (yielded ops a.tmps) = true) (t : TypeId) (m x y : Operand) (ho : o.op = .mapUpdate t m x y)
    {mv xv yv : Value} (hm : a.eval m = mv) (hx : a.eval x = xv) (hy : a.eval y = yv) (hr : (Instr.mapUpdate t mv xv yv).run P w = .ok () w') (hb : But O w w')
    (h : wpPo P O ops Q r (a.put o.dst undef) w') : wpPo P O ops Q ((i, true) :: r) a w :=
  ⟨o, hi, hw, by
    unfold Oper.wp execOp
    simp only [ho, hm, hx, hy, Sem.run_bind, Sem.run_pure, Result.andThen_ok, hr]
    exact ⟨hb, h⟩⟩
theorem pi_look {i : Nat} {o : Oper} {v : Value} {r : List (Nat × Bool)} {a : Act} {w : World} (hi : ops[i]? = some o) (hw : Region.wanted o (yielded ops a.tmps) = true) (t : TypeId) (m x : Operand) (c : Bool) (ho : o.op = .lookup t m x c)
    {mv xv : Value} (hm : a.eval m = mv) (hx : a.eval x = xv) (hr : ∀ w', Below w.heap.size w w' → (Instr.lookup t mv xv c).run P w' = .ok v w')
    (h : wpPi P ops Q r (a.put o.dst v) w) : wpPi P ops Q ((i, false) :: r) a w :=
  pi_q hi hw (fun w' hb => by unfold execOp; simp only [ho, hm, hx, Sem.run_bind, Sem.run_pure, Result.andThen_ok, hr w' hb]) h
theorem po_nil {a : Act} {w : World} (h : Q .normal a w) : wpPo P O ops Q [] a w := h
end
end Go.Proofs.YtjenohodgpmchaaDoor
