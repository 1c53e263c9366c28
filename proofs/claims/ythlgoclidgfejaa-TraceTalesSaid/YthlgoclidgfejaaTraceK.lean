/-
  The tales of events, as a map of one's own; the contract of the closure that puts an event into them.
-/
import Derived.Test.YthlgoclidgfejaaTraceI
import Derived.Test.YthlgoclidgfejaaPiO
namespace Go.Proofs.Ythlgoclidgfejaa
open Go.RowKit Go.Maps Trc
set_option linter.unusedSimpArgs false
set_option linter.unusedVariables false

namespace Trc
def evsOf (n : Nm) (l : List Ev) : List Ev := l.filter fun e => decide (e.name = n)
def nmsStep (acc : List Nm) (e : Ev) : List Nm := if e.name ∈ acc then acc else acc ++ [e.name]
def nmsOf (l : List Ev) : List Nm := l.foldl nmsStep []
def firstA (l : List Ev) : Int := match l.head? with | none => 0 | some e => e.at_
theorem evsOf_snoc (n : Nm) (l : List Ev) (e : Ev) : evsOf n (l ++ [e]) = evsOf n l ++ if e.name = n then [e] else [] := by
  unfold evsOf; rw [List.filter_append]; by_cases h : e.name = n <;> simp [h]
theorem nmsOf_snoc (l : List Ev) (e : Ev) : nmsOf (l ++ [e]) = nmsStep (nmsOf l) e := by unfold nmsOf; simp
theorem snoc_ind {α : Type} {p : List α → Prop} (h0 : p []) (h1 : ∀ l x, p l → p (l ++ [x])) (l : List α) : p l := by
  rw [← List.reverse_reverse l]
  induction l.reverse with
  | nil => exact h0
  | cons x r ih => rw [List.reverse_cons]; exact h1 _ _ ih
theorem nmsOf_mem (l : List Ev) : ∀ n, n ∈ nmsOf l ↔ ∃ e ∈ l, e.name = n := by
  induction l using snoc_ind with
  | h0 => intro n; simp [nmsOf]
  | h1 l e ih =>
    intro n
    rw [nmsOf_snoc]; unfold nmsStep
    split
    · rename_i h
      rw [ih]
      constructor
      · rintro ⟨x, hx, rfl⟩; exact ⟨x, by simp [hx], rfl⟩
      · rintro ⟨x, hx, rfl⟩
        rcases List.mem_append.1 hx with hx | hx
        · exact ⟨x, hx, rfl⟩
        · rw [List.mem_singleton.1 hx]; exact (ih _).1 h
    · rw [List.mem_append, ih]
      constructor
      · rintro (⟨x, hx, rfl⟩ | hx)
        · exact ⟨x, by simp [hx], rfl⟩
        · exact ⟨e, by simp, (List.mem_singleton.1 hx).symm⟩
      · rintro ⟨x, hx, rfl⟩
        rcases List.mem_append.1 hx with hx | hx
        · exact .inl ⟨x, hx, rfl⟩
        · rw [List.mem_singleton.1 hx]; exact .inr (by simp)
theorem nmsOf_nodup (l : List Ev) : (nmsOf l).Nodup := by
  induction l using snoc_ind with
  | h0 => exact List.nodup_nil
  | h1 l e ih =>
    rw [nmsOf_snoc]; unfold nmsStep
    split
    · exact ih
    · rename_i h
      rw [List.nodup_append]
      exact ⟨ih, by simp, fun a ha b hb e' => by simp at hb; exact h (by rw [← hb, ← e']; exact ha)⟩
theorem evsOf_none {n : Nm} {l : List Ev} (h : n ∉ nmsOf l) : evsOf n l = [] := by
  unfold evsOf
  rw [List.filter_eq_nil_iff]
  intro e he hd
  exact h ((nmsOf_mem l n).2 ⟨e, he, by simpa using hd⟩)
theorem evsOf_some {n : Nm} {l : List Ev} (h : n ∈ nmsOf l) : evsOf n l ≠ [] := by
  obtain ⟨e, he, hn⟩ := (nmsOf_mem l n).1 h
  intro h0
  have : e ∈ evsOf n l := by unfold evsOf; rw [List.mem_filter]; exact ⟨he, by simp [hn]⟩
  rw [h0] at this; cases this
theorem firstA_app {l : List Ev} (h : l ≠ []) (r : List Ev) : firstA (l ++ r) = firstA l := by
  cases l with
  | nil => exact absurd rfl h
  | cons x l => rfl
theorem evsOf_len (n : Nm) (l : List Ev) : (evsOf n l).length ≤ l.length := List.length_filter_le _ _
theorem nmV_inj {x y : Nm} (h : nmV x = nmV y) : x = y := by
  simp only [nmV, Value.agg.injEq, Array.mk.injEq, List.cons.injEq, Value.int.injEq, true_and, and_true] at h
  exact Nm.ext h.1 h.2.1 h.2.2.1 h.2.2.2
end Trc

abbrev tEnt (p : Nm × Nat) : Value × Value := (nmV p.1, .pointer (some ⟨p.2, 0, none⟩))
/-- The tales T (name, block), of l1's firsts and l2's events; the map lies in block M, its variable in block C. -/
structure TS (w : World) (C M base : Nat) (l1 l2 : List Ev) (T : List (Nm × Nat)) : Prop where
  map : MapAt Try.prog 39 w M (T.map tEnt)
  var : w.cell? ⟨C, 0, none⟩ = some (.map (some M))
  ne : C ≠ M
  rows : ∀ p ∈ T, RowAt w p.2 (tlC p.1 (firstA (evsOf p.1 l1)) (evsOf p.1 l2)).toArray 74
  apart : ∀ p ∈ T, p.2 ≠ C ∧ p.2 ≠ M ∧ base ≤ p.2
  one : (T.map (·.2)).Nodup
  low : base ≤ M ∧ base ≤ C

theorem TS.but {w w' : World} {C M base : Nat} {l1 l2 : List Ev} {T : List (Nm × Nat)} (h : TS w C M base l1 l2 T) {O : Nat → Prop} (hb : But O w w') (hM : ¬ O M) (hC : ¬ O C) (hT : ∀ p ∈ T, ¬ O p.2) : TS w' C M base l1 l2 T :=
  ⟨h.map.heap (hb.same M h.map.lt hM), hb.cell h.var hC, h.ne, fun p hp => (hb.same p.2 (h.rows p hp).lt (hT p hp)).trans (h.rows p hp), h.apart, h.one, h.low⟩
theorem TS.below {w w' : World} {C M base : Nat} {l1 l2 : List Ev} {T : List (Nm × Nat)} (h : TS w C M base l1 l2 T) (hb : Below w.heap.size w w') : TS w' C M base l1 l2 T :=
  h.but (O := fun _ => False) (But.of_below hb) (fun h => h) (fun h => h) (fun _ _ h => h)
theorem TS.clt {w : World} {C M base : Nat} {l1 l2 : List Ev} {T : List (Nm × Nat)} (h : TS w C M base l1 l2 T) : C < w.heap.size := World.block_lt_of_cell? w _ h.var

theorem tlook_none {w : World} {M : Nat} {T : List (Nm × Nat)} (h : MapAt Try.prog 39 w M (T.map tEnt)) {x : Nm} (hx : x.wf) (hn : x ∉ T.map (·.1)) (c : Bool) :
    (Instr.lookup 71 (.map (some M)) (nmV x) c).run Try.prog w = .ok (if c then .tuple #[.pointer none, .bool false] else .pointer none) w := by
  obtain ⟨l, hl⟩ := nm_key x hx
  refine h.look_none nameKeyed Try.underlying71 ?_ hl (fun p hp e => ?_) c
  · have hz : Try.t69.zero = some (.pointer none) := by kernel_rfl
    simp [go_sem, zeroValue, hz]
  · obtain ⟨q, hq, rfl⟩ := List.mem_map.1 hp
    exact hn (List.mem_map.2 ⟨q, hq, nmV_inj e⟩)
theorem tlook_some {w : World} {M : Nat} {T : List (Nm × Nat)} (h : MapAt Try.prog 39 w M (T.map tEnt)) {x : Nm} (hx : x.wf) {b : Nat} (hm : (x, b) ∈ T) (c : Bool) :
    (Instr.lookup 71 (.map (some M)) (nmV x) c).run Try.prog w = .ok (if c then .tuple #[.pointer (some ⟨b, 0, none⟩), .bool true] else .pointer (some ⟨b, 0, none⟩)) w := by
  obtain ⟨l, hl⟩ := nm_key x hx
  exact h.look_some nameKeyed Try.underlying71 hl (List.mem_map.2 ⟨(x, b), hm, rfl⟩) c

theorem pair_snd {α β : Type} {T : List (α × β)} (h : (T.map (·.2)).Nodup) {p q : α × β} (hp : p ∈ T) (hq : q ∈ T) (e : p.2 = q.2) : p = q := by
  induction T with
  | nil => cases hp
  | cons x T ih =>
    simp only [List.map_cons, List.nodup_cons] at h
    rcases List.mem_cons.1 hp with e1 | e1 <;> rcases List.mem_cons.1 hq with e2 | e2
    · exact e1.trans e2.symm
    · exact absurd (List.mem_map.2 ⟨_, e2, (by rw [← e1]; exact e.symm)⟩) h.1
    · exact absurd (List.mem_map.2 ⟨_, e1, (by rw [← e2]; exact e)⟩) h.1
    · exact ih h.2 e1 e2
theorem pair_fst {α β : Type} {T : List (α × β)} (h : (T.map (·.1)).Nodup) {p q : α × β} (hp : p ∈ T) (hq : q ∈ T) (e : p.1 = q.1) : p = q := by
  induction T with
  | nil => cases hp
  | cons x T ih =>
    simp only [List.map_cons, List.nodup_cons] at h
    rcases List.mem_cons.1 hp with e1 | e1 <;> rcases List.mem_cons.1 hq with e2 | e2
    · exact e1.trans e2.symm
    · exact absurd (List.mem_map.2 ⟨_, e2, (by rw [← e1]; exact e.symm)⟩) h.1
    · exact absurd (List.mem_map.2 ⟨_, e1, (by rw [← e2]; exact e)⟩) h.1
    · exact ih h.2 e1 e2

/-- The tale of an event's name takes the event in. -/
theorem TS.take {w w' : World} {C M base : Nat} {l : List Ev} {e : Ev} {T : List (Nm × Nat)} (h : TS w C M base (l ++ [e]) l T) {b : Nat} (hm : (e.name, b) ∈ T) (hn : (T.map (·.1)).Nodup)
    (hr : RowAt w' b (tlC e.name (firstA (evsOf e.name (l ++ [e]))) (evsOf e.name l ++ [e])).toArray 74) (hb : But (· = b) w w') : TS w' C M base (l ++ [e]) (l ++ [e]) T := by
  have ha := h.apart _ hm
  refine ⟨h.map.heap (hb.same M h.map.lt (fun e => ha.2.1 e.symm)), hb.cell h.var (fun e => ha.1 e.symm), h.ne, fun p hp => ?_, h.apart, h.one, h.low⟩
  by_cases hp2 : p.2 = b
  · have hpe : p = (e.name, b) := pair_snd h.one hp hm hp2
    subst hpe
    have : evsOf e.name (l ++ [e]) = evsOf e.name l ++ [e] := by rw [evsOf_snoc, if_pos rfl]
    rw [this] at hr ⊢
    exact hr
  · have hpn : p.1 ≠ e.name := fun e1 => hp2 (congrArg Prod.snd (pair_fst hn hp hm e1))
    have h2 := h.rows p hp
    have : evsOf p.1 (l ++ [e]) = evsOf p.1 l := by rw [evsOf_snoc, if_neg (fun e1 => hpn e1.symm), List.append_nil]
    rw [this] at h2 ⊢
    exact (hb.same p.2 h2.lt hp2).trans h2

/-- One more event changes no tale's first, when each has one. -/
theorem TS.fst {w : World} {C M base : Nat} {l : List Ev} {T : List (Nm × Nat)} (h : TS w C M base l l T) (hn : T.map (·.1) = nmsOf l) (e : Ev) : TS w C M base (l ++ [e]) l T :=
  ⟨h.map, h.var, h.ne, fun p hp => by
    have hne := evsOf_some (n := p.1) (l := l) (by rw [← hn]; exact List.mem_map.2 ⟨p, hp, rfl⟩)
    rw [evsOf_snoc, firstA_app hne]
    exact h.rows p hp, h.apart, h.one, h.low⟩
/-- A new tale. -/
theorem TS.more {w w' : World} {C M base : Nat} {l : List Ev} {e : Ev} {T : List (Nm × Nat)} (h : TS w C M base (l ++ [e]) l T) (hn : e.name ∉ T.map (·.1)) (hnl : e.name ∉ nmsOf l) {b : Nat} (hr : RowAt w b (tlC e.name e.at_ []).toArray 74)
    (hbT : ∀ p ∈ T, p.2 ≠ b) (hbC : b ≠ C) (hbM : b ≠ M) (hb0 : base ≤ b) (hm : MapAt Try.prog 39 w' M (T.map tEnt ++ [tEnt (e.name, b)])) (hb : But (· = M) w w') : TS w' C M base (l ++ [e]) l (T ++ [(e.name, b)]) := by
  have hS : ∀ p ∈ T ++ [(e.name, b)], p ∈ T ∨ p = (e.name, b) := fun p hp => by
    rcases List.mem_append.1 hp with hp | hp
    · exact .inl hp
    · exact .inr (List.mem_singleton.1 hp)
  refine ⟨?_, hb.cell h.var h.ne, h.ne, fun p hp => ?_, fun p hp => ?_, ?_, h.low⟩
  · rw [List.map_append]; exact hm
  · rcases hS p hp with hp | rfl
    · exact (hb.same p.2 (h.rows p hp).lt (h.apart p hp).2.1).trans (h.rows p hp)
    · have h1 : evsOf e.name l = [] := evsOf_none hnl
      have h2 : evsOf e.name (l ++ [e]) = [e] := by rw [evsOf_snoc, h1, if_pos rfl]; rfl
      show RowAt w' b (tlC e.name (firstA (evsOf e.name (l ++ [e]))) (evsOf e.name l)).toArray _
      rw [h1, h2]
      exact (hb.same b hr.lt hbM).trans hr
  · rcases hS p hp with hp | rfl
    · exact h.apart p hp
    · exact ⟨hbC, hbM, hb0⟩
  · rw [List.map_append, List.nodup_append]
    refine ⟨h.one, by simp, fun a ha c hc e' => ?_⟩
    obtain ⟨p, hp, rfl⟩ := List.mem_map.1 ha
    simp at hc
    exact hbT p hp (e'.trans hc)

def PutPost (w : World) (C M base : Nat) (done : List Ev) (T : List (Nm × Nat)) (en : Ending) (w' : World) : Prop :=
  (∃ v, en = .returned v) ∧ But (fun j => j = M ∨ ∃ p ∈ T, p.2 = j) w w' ∧ ∃ T', TS w' C M base done done T' ∧ T'.map (·.1) = nmsOf done ∧ ∀ p ∈ T', p ∈ T ∨ w.heap.size ≤ p.2
end Go.Proofs.Ythlgoclidgfejaa
