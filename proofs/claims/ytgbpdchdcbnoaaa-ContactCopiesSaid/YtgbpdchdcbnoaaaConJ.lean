/-
  Plans in order: what Add keeps; the chapter's rows (works).
-/
import Derived.Test.YtgbpdchdcbnoaaaConI
namespace Go.Proofs.Ytgbpdchdcbnoaaa
open Go.RowKit Vol
set_option linter.unusedSimpArgs false
set_option linter.unusedVariables false

namespace Vol
theorem cmpF_cases (x y : Int) : (x < y ∧ cmpF x y = -1) ∨ (x = y ∧ cmpF x y = 0) ∨ (y < x ∧ cmpF x y = 1) := by
  unfold cmpF
  rcases Int.lt_trichotomy x y with h | h | h
  · exact .inl ⟨h, if_pos h⟩
  · exact .inr (.inl ⟨h, by rw [if_neg (by omega), if_neg (by omega)]⟩)
  · exact .inr (.inr ⟨h, by rw [if_neg (by omega), if_pos h]⟩)
theorem ordF_cases (a b : Ct) : (ordF a b < 0 ↔ a.from_ < b.from_ ∨ (a.from_ = b.from_ ∧ (a.to < b.to ∨ (a.to = b.to ∧ a.a < b.a)))) ∧ (ordF a b = 0 ↔ a.from_ = b.from_ ∧ a.to = b.to ∧ a.a = b.a) := by
  unfold ordF orF
  rcases cmpF_cases a.from_ b.from_ with ⟨h1, e1⟩ | ⟨h1, e1⟩ | ⟨h1, e1⟩ <;> rcases cmpF_cases a.to b.to with ⟨h2, e2⟩ | ⟨h2, e2⟩ | ⟨h2, e2⟩ <;> rcases cmpF_cases a.a b.a with ⟨h3, e3⟩ | ⟨h3, e3⟩ | ⟨h3, e3⟩ <;>
    (rw [e1, e2, e3]; simp; omega)
theorem ordF_trans {a b c : Ct} (h1 : ordF a b < 0) (h2 : ordF b c < 0) : ordF a c < 0 := by
  rw [(ordF_cases _ _).1] at *
  omega
theorem ordF_tri {a b : Ct} (h1 : ¬ ordF a b < 0) (h2 : ¬ ordF a b = 0) : ordF b a < 0 := by
  rw [(ordF_cases _ _).1] at *
  rw [(ordF_cases _ _).2] at h2
  omega
/-- A plan in order, of contacts that may be. -/
structure PInv (L : List Ct) : Prop where
  ord : L.Pairwise fun a b => ordF a b < 0
  ok : ∀ x ∈ L, okB x = true
theorem PInv.nil : PInv [] := ⟨List.Pairwise.nil, fun x hx => by cases hx⟩
theorem PInv.mono {L : List Ct} (h : PInv L) (c : Ct) : Mono L c := fun i j hj hij hlt =>
  ordF_trans (List.pairwise_iff_getElem.1 h.ord i j (by omega) hj hij) hlt
theorem PInv.sub {L M : List Ct} (h : PInv L) (hs : M.Sublist L) : PInv M := ⟨h.ord.sublist hs, fun x hx => h.ok x (hs.subset hx)⟩
theorem okB_span {c : Ct} (h : okB c = true) : Clk.rightB c.a c.b = true ∧ c.a < c.b := by
  unfold okB at h
  simp only [Bool.and_eq_true, decide_eq_true_eq] at h
  exact ⟨h.1.1.1.2, h.1.1.2⟩
theorem takeWhile_take {α : Type} (p : α → Bool) : ∀ (L : List α), L.take (L.takeWhile p).length = L.takeWhile p
  | [] => rfl
  | x :: L => by
    cases h : p x with
    | true => rw [List.takeWhile_cons_of_pos h, List.length_cons, List.take_succ_cons, takeWhile_take p L]
    | false => rw [List.takeWhile_cons_of_neg (by simp [h])]; rfl
theorem takeWhile_drop {α : Type} (p : α → Bool) : ∀ (L : List α), L.drop (L.takeWhile p).length = L.dropWhile p
  | [] => rfl
  | x :: L => by
    cases h : p x with
    | true => rw [List.takeWhile_cons_of_pos h, List.length_cons, List.drop_succ_cons, takeWhile_drop p L, List.dropWhile_cons_of_pos h]
    | false => rw [List.takeWhile_cons_of_neg (by simp [h]), List.dropWhile_cons_of_neg (by simp [h])]; rfl
theorem insF_eq (L : List Ct) (c : Ct) : insF L c = L.takeWhile (fun x => decide (ordF x c < 0)) ++ c :: L.dropWhile (fun x => decide (ordF x c < 0)) := by
  unfold insF posF
  rw [takeWhile_take, takeWhile_drop]
theorem insF_perm (L : List Ct) (c : Ct) : (insF L c).Perm (c :: L) := by
  unfold insF
  refine List.perm_middle.trans ?_
  rw [List.take_append_drop]
theorem mem_takeWhile {α : Type} {p : α → Bool} : ∀ {L : List α} {x : α}, x ∈ L.takeWhile p → p x = true ∧ x ∈ L
  | [], _, h => by simp at h
  | y :: L, x, h => by
    cases hy : p y with
    | true =>
      rw [List.takeWhile_cons_of_pos hy] at h
      rcases List.mem_cons.1 h with rfl | h
      · exact ⟨hy, by simp⟩
      · exact ⟨(mem_takeWhile h).1, List.mem_cons_of_mem _ (mem_takeWhile h).2⟩
    | false => rw [List.takeWhile_cons_of_neg (by simp [hy])] at h; simp at h
theorem dropWhile_mono {L : List Ct} {c : Ct} (h : PInv L) : ∀ y ∈ L.dropWhile (fun x => decide (ordF x c < 0)), ¬ ordF y c < 0 := by
  have ho := h.ord
  clear h
  induction L with
  | nil => intro y hy; simp at hy
  | cons x L ih =>
    rw [List.pairwise_cons] at ho
    intro y hy
    by_cases hx : ordF x c < 0
    · rw [List.dropWhile_cons_of_pos (by simpa using hx)] at hy
      exact ih ho.2 y hy
    · rw [List.dropWhile_cons_of_neg (by simpa using hx)] at hy
      rcases List.mem_cons.1 hy with rfl | hy
      · exact hx
      · exact fun e => hx (ordF_trans (ho.1 y hy) e)
/-- Without a clash, one more stays in order. -/
theorem PInv.ins {L : List Ct} {c : Ct} (h : PInv L) (hc : okB c = true) (hn : clashB L c = false) : PInv (insF L c) := by
  have hd := dropWhile_mono (c := c) h
  have hno : ∀ y ∈ L, ¬ ordF y c = 0 := fun y hy e => by
    have h1 := List.any_eq_false.1 hn y hy
    obtain ⟨k1, k2, k3⟩ := (ordF_cases _ _).2.1 e
    obtain ⟨r1, l1⟩ := okB_span (h.ok y hy)
    obtain ⟨r2, l2⟩ := okB_span hc
    apply h1
    unfold btwB Clk.bothB
    simp only
    rw [r1, r2]
    simp only [k1, k2, decide_true, Bool.true_and, decide_eq_true_eq]
    unfold Clk.maxI Clk.minI
    split <;> split <;> omega
  rw [insF_eq]
  refine ⟨?_, fun x hx => ?_⟩
  · rw [List.pairwise_append, List.pairwise_cons]
    refine ⟨h.ord.sublist (List.takeWhile_sublist _), ⟨fun y hy => ?_, h.ord.sublist (List.dropWhile_sublist _)⟩, fun a ha b hb => ?_⟩
    · exact ordF_tri (hd y hy) (hno y ((List.dropWhile_sublist _).subset hy))
    · have ha1 := (mem_takeWhile ha).1
      have ha2 : ordF a c < 0 := by simpa using ha1
      rcases List.mem_cons.1 hb with rfl | hb
      · exact ha2
      · exact ordF_trans ha2 (ordF_tri (hd b hb) (hno b ((List.dropWhile_sublist _).subset hb)))
  · rcases List.mem_append.1 hx with hx | hx
    · exact h.ok x ((List.takeWhile_sublist _).subset hx)
    · rcases List.mem_cons.1 hx with rfl | hx
      · exact hc
      · exact h.ok x ((List.dropWhile_sublist _).subset hx)
theorem PInv.add {L : List Ct} (h : PInv L) (c : Ct) : PInv (addF L c).2 := by
  unfold addF
  split
  · split
    · exact h
    · split
      · exact h
      · rename_i h1 h2 h3
        exact h.ins h1 (by simpa using h2)
  · exact h
end Vol
end Go.Proofs.Ytgbpdchdcbnoaaa
