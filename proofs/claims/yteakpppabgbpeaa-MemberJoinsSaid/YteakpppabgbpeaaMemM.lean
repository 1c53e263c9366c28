/-
  What a roll holds is the greatest telling of each key; opening a slice of tellings. No walk.
-/
import Derived.Test.YteakpppabgbpeaaMemK
import Derived.Test.YteakpppabgbpeaaRecOpen
namespace Go.Proofs.Yteakpppabgbpeaa
open Go.RowKit Go.Maps Mem
set_option linter.unusedSimpArgs false
set_option linter.unusedVariables false

namespace Mem
/-- A telling's rank among those of its key. -/
def rnk (m : Mb) : Int := 2 * m.epoch + if m.in_ = true then 0 else 1
theorem rnk_bd (m : Mb) : 2 * m.epoch ≤ rnk m ∧ rnk m ≤ 2 * m.epoch + 1 := by unfold rnk; split <;> omega
theorem outB_iff (a b : Mb) : outB a b = true ↔ a.node = b.node ∧ a.region = b.region ∧ rnk b < rnk a := by
  obtain ⟨a1, a2, a3, a4⟩ := a
  obtain ⟨b1, b2, b3, b4⟩ := b
  unfold outB rnk
  simp only [Bool.and_eq_true, Bool.or_eq_true, decide_eq_true_eq, Bool.not_eq_true']
  cases a4 <;> cases b4 <;> simp <;> omega
theorem outB_not {a b : Mb} (h1 : a.node = b.node) (h2 : a.region = b.region) : outB a b = false ↔ rnk a ≤ rnk b := by
  rw [← Bool.not_eq_true, outB_iff]
  constructor
  · intro h; exact Int.not_lt.1 fun h' => h ⟨h1, h2, h'⟩
  · rintro h ⟨_, _, h'⟩; omega
theorem mb_eq {a b : Mb} (h1 : a.node = b.node) (h2 : a.region = b.region) (h3 : rnk a = rnk b) : a = b := by
  obtain ⟨a1, a2, a3, a4⟩ := a
  obtain ⟨b1, b2, b3, b4⟩ := b
  simp only at h1 h2
  subst h1; subst h2
  unfold rnk at h3
  cases a4 <;> cases b4 <;> simp at h3
  · obtain rfl : a3 = b3 := by omega
    rfl
  · omega
  · omega
  · obtain rfl : a3 = b3 := by omega
    rfl
def Keys (E : List Mb) : Prop := E.Pairwise fun a b => ¬ (a.node = b.node ∧ a.region = b.region)
theorem Keys.nil : Keys [] := List.Pairwise.nil
theorem Keys.nodup {E : List Mb} (h : Keys E) : E.Nodup := List.Pairwise.imp (fun h e => h (by rw [e]; exact ⟨rfl, rfl⟩)) h
theorem Keys.one {E : List Mb} (h : Keys E) {a b : Mb} (ha : a ∈ E) (hb : b ∈ E) (h1 : a.node = b.node) (h2 : a.region = b.region) : a = b := by
  rcases pair_cases h ha hb with h3 | h3 | h3
  · exact h3
  · exact (h3 ⟨h1, h2⟩).elim
  · exact (h3 ⟨h1.symm, h2.symm⟩).elim
theorem find_none {E : List Mb} {n r : Int} (h : find E n r = none) {m : Mb} (hm : m ∈ E) : ¬ (m.node = n ∧ m.region = r) := by
  have := List.find?_eq_none.1 h m hm
  simpa [ofB] using this
theorem Keys.find {E : List Mb} (h : Keys E) {m : Mb} (hm : m ∈ E) : Mem.find E m.node m.region = some m := by
  cases hf : Mem.find E m.node m.region with
  | none => exact (find_none hf hm ⟨rfl, rfl⟩).elim
  | some o =>
    obtain ⟨h1, h2, h3⟩ := find_some hf
    rw [h.one h1 hm h2 h3]
/-- A telling's three ways. -/
theorem tell_ways {E : List Mb} (m : Mb) (hl : E.length < 512) :
    (zB m = true ∧ tellE E m = 2 ∧ tellF E m = E) ∨
    (zB m = false ∧ find E m.node m.region = none ∧ tellE E m = 0 ∧ tellF E m = E ++ [m]) ∨
    (zB m = false ∧ ∃ o, find E m.node m.region = some o ∧ outB m o = true ∧ tellE E m = 0 ∧ ∃ a b, E = a ++ o :: b ∧ tellF E m = a ++ m :: b) ∨
    (zB m = false ∧ ∃ o, find E m.node m.region = some o ∧ outB m o = false ∧ tellE E m = 300 ∧ tellF E m = E) := by
  unfold tellF
  cases hz : zB m with
  | true =>
    have h2 : tellE E m = 2 := by unfold tellE; rw [hz]; rfl
    exact .inl ⟨rfl, h2, by rw [h2]; rfl⟩
  | false =>
    right
    cases hf : find E m.node m.region with
    | none =>
      have h0 : tellE E m = 0 := by
        unfold tellE oldB fullB
        rw [hz, hf]
        have : ¬ 512 ≤ E.length := by omega
        simp [this]
      exact .inl ⟨rfl, rfl, h0, by rw [h0, if_pos rfl, putF_none hf]⟩
    | some o =>
      right
      cases ho : outB m o with
      | true =>
        have h0 : tellE E m = 0 := by
          unfold tellE oldB fullB
          rw [hz, hf]
          simp [ho]
        obtain ⟨a, b, h1, h2⟩ := putF_some hf
        exact .inl ⟨rfl, o, rfl, ho, h0, a, b, h1, by rw [h0, if_pos rfl, h2]⟩
      | false =>
        have h0 : tellE E m = 300 := by
          unfold tellE oldB
          rw [hz, hf]
          simp [ho]
        exact .inr ⟨rfl, o, rfl, ho, h0, by rw [h0]; rfl⟩
theorem Keys.tell {E : List Mb} (h : Keys E) (m : Mb) (hl : E.length < 512) : Keys (tellF E m) ∧ (tellF E m).length ≤ E.length + 1 := by
  rcases tell_ways m hl with ⟨_, _, e⟩ | ⟨_, hf, _, e⟩ | ⟨_, o, hf, _, _, a, b, e1, e⟩ | ⟨_, o, _, _, _, e⟩ <;> rw [e]
  · exact ⟨h, by omega⟩
  · refine ⟨List.pairwise_append.2 ⟨h, List.pairwise_singleton _ _, fun x hx y hy => ?_⟩, by simp⟩
    rw [List.mem_singleton.1 hy]
    exact find_none hf hx
  · obtain ⟨_, h2, h3⟩ := find_some hf
    subst e1
    refine ⟨?_, by simp⟩
    unfold Keys at h ⊢
    rw [List.pairwise_append, List.pairwise_cons] at h ⊢
    refine ⟨h.1, ⟨fun y hy => by rw [← h2, ← h3]; exact h.2.1.1 y hy, h.2.1.2⟩, fun x hx y hy => ?_⟩
    rcases List.mem_cons.1 hy with rfl | hy
    · rw [← h2, ← h3]; exact h.2.2 x hx o (by simp)
    · exact h.2.2 x hx y (by simp [hy])
  · exact ⟨h, by omega⟩
/-- E holds the greatest telling of each key among those of S. -/
structure Top (E : List Mb) (S : Mb → Prop) : Prop where
  mem : ∀ m ∈ E, S m ∧ zB m = false
  top : ∀ s, S s → zB s = false → ∃ m ∈ E, m.node = s.node ∧ m.region = s.region ∧ rnk s ≤ rnk m
theorem Top.nil : Top [] (fun _ => False) := ⟨(fun m h => by cases h), fun s h => h.elim⟩
theorem Top.congr {E : List Mb} {S S' : Mb → Prop} (h : Top E S) (e : ∀ m, S m ↔ S' m) : Top E S' := ⟨fun m hm => ⟨(e m).1 (h.mem m hm).1, (h.mem m hm).2⟩, fun s hs => h.top s ((e s).2 hs)⟩
theorem Top.tell {E : List Mb} {S : Mb → Prop} (h : Top E S) (m : Mb) (hl : E.length < 512) : Top (tellF E m) (fun x => S x ∨ x = m) := by
  rcases tell_ways m hl with ⟨hz, _, e⟩ | ⟨hz, hf, _, e⟩ | ⟨hz, o, hf, ho, _, a, b, e1, e⟩ | ⟨hz, o, hf, ho, _, e⟩ <;> rw [e]
  · refine ⟨fun x hx => ⟨.inl (h.mem x hx).1, (h.mem x hx).2⟩, fun s hs hzs => ?_⟩
    rcases hs with hs | rfl
    · exact h.top s hs hzs
    · rw [hz] at hzs; cases hzs
  · refine ⟨fun x hx => ?_, fun s hs hzs => ?_⟩
    · rcases List.mem_append.1 hx with hx | hx
      · exact ⟨.inl (h.mem x hx).1, (h.mem x hx).2⟩
      · rw [List.mem_singleton.1 hx]; exact ⟨.inr rfl, hz⟩
    · rcases hs with hs | rfl
      · obtain ⟨x, hx, h2⟩ := h.top s hs hzs
        exact ⟨x, List.mem_append_left _ hx, h2⟩
      · exact ⟨s, by simp, rfl, rfl, Int.le_refl _⟩
  · obtain ⟨_, h2, h3⟩ := find_some hf
    subst e1
    have hr : rnk o < rnk m := ((outB_iff m o).1 ho).2.2
    refine ⟨fun x hx => ?_, fun s hs hzs => ?_⟩
    · rcases List.mem_append.1 hx with hx | hx
      · exact ⟨.inl (h.mem x (by simp [hx])).1, (h.mem x (by simp [hx])).2⟩
      · rcases List.mem_cons.1 hx with rfl | hx
        · exact ⟨.inr rfl, hz⟩
        · exact ⟨.inl (h.mem x (by simp [hx])).1, (h.mem x (by simp [hx])).2⟩
    · rcases hs with hs | rfl
      · obtain ⟨x, hx, h4, h5, h6⟩ := h.top s hs hzs
        rcases List.mem_append.1 hx with hx | hx
        · exact ⟨x, by simp [hx], h4, h5, h6⟩
        · rcases List.mem_cons.1 hx with rfl | hx
          · exact ⟨m, by simp, by rw [← h4, h2], by rw [← h5, h3], by omega⟩
          · exact ⟨x, by simp [hx], h4, h5, h6⟩
      · exact ⟨s, by simp, rfl, rfl, Int.le_refl _⟩
  · obtain ⟨h1, h2, h3⟩ := find_some hf
    refine ⟨fun x hx => ⟨.inl (h.mem x hx).1, (h.mem x hx).2⟩, fun s hs hzs => ?_⟩
    rcases hs with hs | rfl
    · exact h.top s hs hzs
    · exact ⟨o, h1, h2, h3, (outB_not h2.symm h3.symm).1 ho⟩
theorem Top.join : ∀ (l E : List Mb) (S : Mb → Prop), Keys E → Top E S → E.length + l.length ≤ 512 → Top (joinE E l) (fun x => S x ∨ x ∈ l) ∧ Keys (joinE E l) ∧ (joinE E l).length ≤ E.length + l.length
  | [], E, S, hk, h, _ => ⟨h.congr fun m => by simp, hk, by simp [joinE]⟩
  | m :: l, E, S, hk, h, hl => by
    simp only [List.length_cons] at hl
    have h1 := hk.tell m (by omega)
    obtain ⟨h2, h3, h4⟩ := Top.join l (tellF E m) _ h1.1 (h.tell m (by omega)) (by omega)
    exact ⟨h2.congr fun x => by simp only [List.mem_cons, or_assoc], h3, by simp only [List.length_cons]; show (joinE (tellF E m) l).length ≤ _; omega⟩
theorem Top.eq {E1 E2 : List Mb} {S : Mb → Prop} (k1 : Keys E1) (k2 : Keys E2) (h1 : Top E1 S) (h2 : Top E2 S) {m : Mb} (hm : m ∈ E1) : m ∈ E2 := by
  obtain ⟨hs, hz⟩ := h1.mem m hm
  obtain ⟨x, hx, e1, e2, e3⟩ := h2.top m hs hz
  obtain ⟨hs2, hz2⟩ := h2.mem x hx
  obtain ⟨y, hy, f1, f2, f3⟩ := h1.top x hs2 hz2
  have : y = m := k1.one hy hm (f1.trans e1) (f2.trans e2)
  subst this
  have : x = y := mb_eq e1 e2 (by omega)
  rw [← this]; exact hx
theorem Top.eqB {E1 E2 : List Mb} {S : Mb → Prop} (k1 : Keys E1) (k2 : Keys E2) (h1 : Top E1 S) (h2 : Top E2 S) : eqB E1 E2 = true := by
  unfold Mem.eqB
  rw [Bool.and_eq_true, decide_eq_true_eq, List.all_eq_true]
  refine ⟨Nat.le_antisymm (List.Nodup.length_le_of_subset k1.nodup fun m hm => Top.eq k1 k2 h1 h2 hm) (List.Nodup.length_le_of_subset k2.nodup fun m hm => Top.eq k2 k1 h2 h1 hm), fun m hm => decide_eq_true ?_⟩
  exact k2.find (Top.eq k1 k2 h1 h2 hm)
/-- What is joined out of a top is joined out of all. -/
theorem Top.through {E E' : List Mb} {S T : Mb → Prop} (h : Top E S) (h' : Top E' (fun x => T x ∨ x ∈ E)) : Top E' (fun x => T x ∨ S x) := by
  refine ⟨fun m hm => ⟨(h'.mem m hm).1.imp id fun h2 => (h.mem m h2).1, (h'.mem m hm).2⟩, fun s hs hz => ?_⟩
  rcases hs with hs | hs
  · exact h'.top s (.inl hs) hz
  · obtain ⟨x, hx, e1, e2, e3⟩ := h.top s hs hz
    obtain ⟨y, hy, f1, f2, f3⟩ := h'.top x (.inr hx) (h.mem x hx).2
    exact ⟨y, hy, f1.trans e1, f2.trans e2, by omega⟩
theorem join_same : ∀ (l E : List Mb), Keys E → E.length < 512 → (∀ m ∈ l, m ∈ E) → joinE E l = E ∧ joinN E l = 0
  | [], E, _, _, _ => ⟨rfl, rfl⟩
  | m :: l, E, hk, hl, h => by
    have hf := hk.find (h m (by simp))
    have hx : tellF E m = E ∧ tellE E m ≠ 0 := by
      rcases tell_ways m hl with ⟨_, h2, e⟩ | ⟨_, hf2, _, e⟩ | ⟨_, o, hf2, ho, _, _⟩ | ⟨_, o, _, _, h2, e⟩
      · exact ⟨e, by rw [h2]; decide⟩
      · rw [hf] at hf2; cases hf2
      · rw [hf] at hf2
        obtain rfl : m = o := by simpa using hf2
        have := ((outB_iff m m).1 ho).2.2
        omega
      · exact ⟨e, by rw [h2]; decide⟩
    obtain ⟨h1, h2⟩ := join_same l E hk hl (fun x hx => h x (by simp [hx]))
    refine ⟨by show joinE (tellF E m) l = E; rw [hx.1, h1], ?_⟩
    show (if tellE E m = 0 then 1 else 0) + joinN (tellF E m) l = 0
    rw [if_neg hx.2, hx.1, h2]
end Mem
theorem RollAt.keys {w : World} {B M : Nat} {E : List Mb} (h : RollAt w B M E) : Mem.Keys E := by
  have h1 := h.map.one
  rw [List.map_map] at h1
  unfold Mem.Keys
  refine (List.pairwise_map.1 h1).imp fun {a b} h2 h3 => h2 ?_
  show keyV a.node a.region = keyV b.node b.region
  rw [h3.1, h3.2]
theorem mb_of {H : Type} {enc : TypeId × Value → H} {w : World} {base : Nat} {spare : Nat → Bool} {held : Bool} {f : Nat → Option Value}
    (hl : ∀ (j : Nat) (U : TypeId), [22, 22, 22, 4][j]? = some U → ∃ c, f j = some c ∧ Leaf enc Try.prog w base spare held U c) : ∃ x : Mb, x.Wf ∧ ∀ j, j < 4 → f j = (mbC x)[j]? := by
  obtain ⟨c0, e0, L0⟩ := hl 0 _ rfl
  obtain ⟨x0, rfl, w0⟩ := Leaf.int Try.underlying22 L0
  obtain ⟨c1, e1, L1⟩ := hl 1 _ rfl
  obtain ⟨x1, rfl, w1⟩ := Leaf.int Try.underlying22 L1
  obtain ⟨c2, e2, L2⟩ := hl 2 _ rfl
  obtain ⟨x2, rfl, w2⟩ := Leaf.int Try.underlying22 L2
  obtain ⟨c3, e3, L3⟩ := hl 3 _ rfl
  obtain ⟨x3, rfl⟩ := Leaf.bool Try.underlying4 L3
  simp [Lit.wf, IntKind.min, IntKind.max, IntKind.signed, IntKind.bits] at w0 w1
  refine ⟨⟨x0, x1, x2, x3⟩, ⟨w0.1, w0.2, w1.1, w1.2⟩, fun j hj => ?_⟩
  rcases (show j = 0 ∨ j = 1 ∨ j = 2 ∨ j = 3 by omega) with rfl | rfl | rfl | rfl
  · exact e0
  · exact e1
  · exact e2
  · exact e3
theorem mbs_of {H : Type} {enc : TypeId × Value → H} {w : World} {base : Nat} {spare : Nat → Bool} {held : Bool} {v : Value} {n : Nat} {vs : List Value} (hs : Sl w 4 v n vs)
    (hl : ∀ i, i < n → ∀ (j : Nat) (U : TypeId), [22, 22, 22, 4][j]? = some U → ∃ c, vs[i * 4 + j]? = some c ∧ Leaf enc Try.prog w base spare held U c) : ∃ l : List Mb, vs = l.flatMap mbC ∧ ∀ m ∈ l, m.Wf :=
  recs_of (cells := mbC) (good := Mb.Wf) (sz := 4) (fun _ => rfl) n vs hs.1 fun i hi => mb_of (hl i hi)
end Go.Proofs.Yteakpppabgbpeaa
