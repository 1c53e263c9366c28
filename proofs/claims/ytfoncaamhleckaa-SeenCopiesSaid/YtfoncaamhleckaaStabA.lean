/-
  Stable sort, the plain part: orders in which equals are the same; what insertion and merging leave.
-/
import Derived.Test.YtfoncaamhleckaaBase
namespace Go.Proofs.Ytfoncaamhleckaa
namespace Srt
variable {α : Type} {lt : α → α → Bool}

/-- An order; what is not apart is the same. -/
structure TO (lt : α → α → Bool) : Prop where
  asym : ∀ x y, lt x y = true → lt y x = false
  trans : ∀ x y z, lt y x = false → lt z y = false → lt z x = false
  anti : ∀ x y, lt x y = false → lt y x = false → x = y
def Sorted (lt : α → α → Bool) (L : List α) : Prop := L.Pairwise fun x y => lt y x = false
theorem TO.refl (h : TO lt) (x : α) : lt x x = false := by
  cases hx : lt x x with
  | false => rfl
  | true => exact (hx.symm.trans (h.asym x x hx))
theorem Sorted.nil : Sorted lt [] := List.Pairwise.nil
theorem Sorted.one (x : α) : Sorted lt [x] := List.pairwise_singleton _ _
theorem Sorted.left {A B : List α} (h : Sorted lt (A ++ B)) : Sorted lt A := (List.pairwise_append.1 h).1
theorem Sorted.right {A B : List α} (h : Sorted lt (A ++ B)) : Sorted lt B := (List.pairwise_append.1 h).2.1
theorem Sorted.cross {A B : List α} (h : Sorted lt (A ++ B)) : ∀ x ∈ A, ∀ y ∈ B, lt y x = false := (List.pairwise_append.1 h).2.2
theorem Sorted.app {A B : List α} (hA : Sorted lt A) (hB : Sorted lt B) (h : ∀ x ∈ A, ∀ y ∈ B, lt y x = false) : Sorted lt (A ++ B) := List.pairwise_append.2 ⟨hA, hB, h⟩
theorem last_some {A : List α} (h : A ≠ []) : ∃ y, A.getLast? = some y := by
  cases hl : A.getLast? with
  | none => exact absurd (List.getLast?_eq_none_iff.1 hl) h
  | some y => exact ⟨y, rfl⟩
theorem last_split {A : List α} {y : α} (h : A.getLast? = some y) : A = A.dropLast ++ [y] := by
  obtain ⟨B, rfl⟩ := List.getLast?_eq_some_iff.1 h
  simp
/-- All are at most the last one. -/
theorem Sorted.last (h : TO lt) {A : List α} (hA : Sorted lt A) {x y : α} (hx : x ∈ A) (hy : A.getLast? = some y) : lt y x = false := by
  obtain ⟨A', rfl⟩ : ∃ A', A = A' ++ [y] := by
    have hne : A ≠ [] := fun e => by rw [e] at hx; cases hx
    exact ⟨A.dropLast, last_split hy⟩
  rcases List.mem_append.1 hx with hx | hx
  · exact hA.cross x hx y (by simp)
  · rw [List.mem_singleton] at hx; rw [hx]; exact h.refl y
/-- The first one is at most all. -/
theorem Sorted.first (h : TO lt) {A : List α} (hA : Sorted lt A) {x y : α} (hx : x ∈ A) (hy : A.head? = some y) : lt x y = false := by
  cases A with
  | nil => cases hx
  | cons a r =>
    simp only [List.head?_cons, Option.some.injEq] at hy
    subst hy
    rcases List.mem_cons.1 hx with rfl | hx
    · exact h.refl _
    · exact (List.pairwise_cons.1 hA).1 x hx
/-- One is laid between. -/
theorem ins_sorted (h : TO lt) {A B : List α} {x : α} (hAB : Sorted lt (A ++ B)) (h1 : ∀ y, A.getLast? = some y → lt x y = false) (h2 : ∀ y, B.head? = some y → lt y x = false) : Sorted lt (A ++ x :: B) := by
  refine Sorted.app hAB.left (List.pairwise_cons.2 ⟨fun z hz => ?_, hAB.right⟩) fun z hz y hy => ?_
  · cases hB : B with
    | nil => rw [hB] at hz; cases hz
    | cons b r =>
      have := Sorted.first h hAB.right hz (y := b) (by rw [hB]; rfl)
      exact h.trans _ _ _ (h2 b (by rw [hB]; rfl)) this
  · have hl : A ≠ [] := fun e => by rw [e] at hz; cases hz
    obtain ⟨l, hlast⟩ := last_some hl
    have hzx : lt x z = false := h.trans _ _ _ (Sorted.last h hAB.left hz hlast) (h1 _ hlast)
    rcases List.mem_cons.1 hy with rfl | hy
    · exact hzx
    · exact hAB.cross z hz y hy
/-- What the halves of a merge keep. -/
theorem halves (h : TO lt) {U1 U2 V1 V2 : List α} (hU : Sorted lt (U1 ++ U2)) (hV : Sorted lt (V1 ++ V2)) (c1 : ∀ x y, U1.getLast? = some x → V2.head? = some y → lt y x = false) (c2 : ∀ x y, V1.getLast? = some x → U2.head? = some y → lt y x = false) :
    ∀ x ∈ U1 ++ V1, ∀ y ∈ U2 ++ V2, lt y x = false := by
  have key : ∀ {A B : List α}, Sorted lt A → Sorted lt B → (∀ x y, A.getLast? = some x → B.head? = some y → lt y x = false) → ∀ x ∈ A, ∀ y ∈ B, lt y x = false := by
    intro A B hA hB hc x hx y hy
    have ha : A ≠ [] := fun e => by rw [e] at hx; cases hx
    obtain ⟨l, hlast⟩ := last_some ha
    cases hB' : B with
    | nil => rw [hB'] at hy; cases hy
    | cons b r =>
      have hb : B.head? = some b := by rw [hB']; rfl
      exact h.trans _ _ _ (Sorted.last h hA hx hlast) (h.trans _ _ _ (hc _ _ hlast hb) (Sorted.first h hB hy hb))
  intro x hx y hy
  rcases List.mem_append.1 hx with hx | hx <;> rcases List.mem_append.1 hy with hy | hy
  · exact hU.cross x hx y hy
  · exact key hU.left hV.right c1 x hx y hy
  · exact key hV.left hU.right c2 x hx y hy
  · exact hV.cross x hx y hy
theorem join {A B A' B' : List α} (hc : ∀ x ∈ A, ∀ y ∈ B, lt y x = false) (pA : A'.Perm A) (pB : B'.Perm B) (sA : Sorted lt A') (sB : Sorted lt B') : Sorted lt (A' ++ B') :=
  Sorted.app sA sB fun x hx y hy => hc x (pA.mem_iff.1 hx) y (pB.mem_iff.1 hy)
theorem unique (h : TO lt) : ∀ {L M : List α}, Sorted lt L → Sorted lt M → L.Perm M → L = M
  | [], M, _, _, hp => (List.nil_perm.1 hp).symm
  | x :: L, M, hL, hM, hp => by
    cases M with
    | nil => exact absurd (List.perm_nil.1 hp) (by simp)
    | cons y M =>
      have hxy : x = y := by
        have hx : x ∈ y :: M := hp.mem_iff.1 List.mem_cons_self
        have hy : y ∈ x :: L := hp.mem_iff.2 List.mem_cons_self
        rcases List.mem_cons.1 hx with e | hx
        · exact e
        · rcases List.mem_cons.1 hy with e | hy
          · exact e.symm
          · exact h.anti _ _ ((List.pairwise_cons.1 hM).1 x hx) ((List.pairwise_cons.1 hL).1 y hy)
      subst hxy
      rw [unique h (List.pairwise_cons.1 hL).2 (List.pairwise_cons.1 hM).2 ((List.perm_cons x).1 hp)]
/-- Blocks of so many are sorted. -/
def Blocks (lt : α → α → Bool) (s : Nat) (L : List α) : Prop := ∀ k, Sorted lt ((L.drop (k * s)).take s)
theorem Blocks.all {s : Nat} {L : List α} (h : Blocks lt s L) (hs : L.length ≤ s) : Sorted lt L := by
  have := h 0
  rwa [Nat.zero_mul, List.drop_zero, List.take_of_length_le hs] at this
end Srt
end Go.Proofs.Ytfoncaamhleckaa
