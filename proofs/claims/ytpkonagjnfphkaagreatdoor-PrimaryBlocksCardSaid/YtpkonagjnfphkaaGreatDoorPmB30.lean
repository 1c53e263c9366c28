/-
  StabA, StabB, NStabE: several texts in one (bundle.py).
-/
import Derived.Test.YtpkonagjnfphkaaGreatDoorPmB01
import Derived.Test.YtpkonagjnfphkaaGreatDoorPmB12
import Derived.Test.YtpkonagjnfphkaaGreatDoorPmB07
namespace Go.Proofs.YtpkonagjnfphkaaGreatDoor
namespace Srt
variable {α : Type} {lt : α → α → Bool}

/-- An order; what is not apart is the same. -/
structure TO (lt : α → α → Bool) : Prop where
  asym : ∀ x y, lt x y = true → lt y x = false
  trans : ∀ x y z, lt y x = false → lt z y = false → lt z x = false
  anti : ∀ x y, lt x y = false → lt y x = false → x = y
def Sorted (lt : α → α → Bool) (L : List α) : Prop := L.Pairwise fun x y => lt y x = false
theorem TO.refl (h : TO lt) (x : α) : lt x x = false := by
  cases hx : lt x x with
  | false => rfl
  | true => exact (hx.symm.trans (h.asym x x hx))
theorem Sorted.nil : Sorted lt [] := List.Pairwise.nil
theorem Sorted.one (x : α) : Sorted lt [x] := List.pairwise_singleton _ _
theorem Sorted.left {A B : List α} (h : Sorted lt (A ++ B)) : Sorted lt A := (List.pairwise_append.1 h).1
theorem Sorted.right {A B : List α} (h : Sorted lt (A ++ B)) : Sorted lt B := (List.pairwise_append.1 h).2.1
theorem Sorted.cross {A B : List α} (h : Sorted lt (A ++ B)) : ∀ x ∈ A, ∀ y ∈ B, lt y x = false := (List.pairwise_append.1 h).2.2
theorem Sorted.app {A B : List α} (hA : Sorted lt A) (hB : Sorted lt B) (h : ∀ x ∈ A, ∀ y ∈ B, lt y x = false) : Sorted lt (A ++ B) := List.pairwise_append.2 ⟨hA, hB, h⟩
theorem last_some {A : List α} (h : A ≠ []) : ∃ y, A.getLast? = some y := by
  cases hl : A.getLast? with
  | none => exact absurd (List.getLast?_eq_none_iff.1 hl) h
  | some y => exact ⟨y, rfl⟩
theorem last_split {A : List α} {y : α} (h : A.getLast? = some y) : A = A.dropLast ++ [y] := by
  obtain ⟨B, rfl⟩ := List.getLast?_eq_some_iff.1 h
  simp
/-- All are at most the last one. -/
theorem Sorted.last (h : TO lt) {A : List α} (hA : Sorted lt A) {x y : α} (hx : x ∈ A) (hy : A.getLast? = some y) : lt y x = false := by
  obtain ⟨A', rfl⟩ : ∃ A', A = A' ++ [y] := by
    have hne : A ≠ [] := fun e => by rw [e] at hx; cases hx
    exact ⟨A.dropLast, last_split hy⟩
  rcases List.mem_append.1 hx with hx | hx
  · exact hA.cross x hx y (by simp)
  · rw [List.mem_singleton] at hx; rw [hx]; exact h.refl y
/-- The first one is at most all. -/
theorem Sorted.first (h : TO lt) {A : List α} (hA : Sorted lt A) {x y : α} (hx : x ∈ A) (hy : A.head? = some y) : lt x y = false := by
  cases A with
  | nil => cases hx
  | cons a r =>
    simp only [List.head?_cons, Option.some.injEq] at hy
    subst hy
    rcases List.mem_cons.1 hx with rfl | hx
    · exact h.refl _
    · exact (List.pairwise_cons.1 hA).1 x hx
/-- One is laid between. -/
theorem ins_sorted (h : TO lt) {A B : List α} {x : α} (hAB : Sorted lt (A ++ B)) (h1 : ∀ y, A.getLast? = some y → lt x y = false) (h2 : ∀ y, B.head? = some y → lt y x = false) : Sorted lt (A ++ x :: B) := by
  refine Sorted.app hAB.left (List.pairwise_cons.2 ⟨fun z hz => ?_, hAB.right⟩) fun z hz y hy => ?_
  · cases hB : B with
    | nil => rw [hB] at hz; cases hz
    | cons b r =>
      have := Sorted.first h hAB.right hz (y := b) (by rw [hB]; rfl)
      exact h.trans _ _ _ (h2 b (by rw [hB]; rfl)) this
  · have hl : A ≠ [] := fun e => by rw [e] at hz; cases hz
    obtain ⟨l, hlast⟩ := last_some hl
    have hzx : lt x z = false := h.trans _ _ _ (Sorted.last h hAB.left hz hlast) (h1 _ hlast)
    rcases List.mem_cons.1 hy with rfl | hy
    · exact hzx
    · exact hAB.cross z hz y hy
/-- What the halves of a merge keep. -/
theorem halves (h : TO lt) {U1 U2 V1 V2 : List α} (hU : Sorted lt (U1 ++ U2)) (hV : Sorted lt (V1 ++ V2)) (c1 : ∀ x y, U1.getLast? = some x → V2.head? = some y → lt y x = false) (c2 : ∀ x y, V1.getLast? = some x → U2.head? = some y → lt y x = false) :
    ∀ x ∈ U1 ++ V1, ∀ y ∈ U2 ++ V2, lt y x = false := by
  have key : ∀ {A B : List α}, Sorted lt A → Sorted lt B → (∀ x y, A.getLast? = some x → B.head? = some y → lt y x = false) → ∀ x ∈ A, ∀ y ∈ B, lt y x = false := by
    intro A B hA hB hc x hx y hy
    have ha : A ≠ [] := fun e => by rw [e] at hx; cases hx
    obtain ⟨l, hlast⟩ := last_some ha
    cases hB' : B with
    | nil => rw [hB'] at hy; cases hy
    | cons b r =>
      have hb : B.head? = some b := by rw [hB']; rfl
      exact h.trans _ _ _ (Sorted.last h hA hx hlast) (h.trans _ _ _ (hc _ _ hlast hb) (Sorted.first h hB hy hb))
  intro x hx y hy
  rcases List.mem_append.1 hx with hx | hx <;> rcases List.mem_append.1 hy with hy | hy
  · exact hU.cross x hx y hy
  · exact key hU.left hV.right c1 x hx y hy
  · exact key hV.left hU.right c2 x hx y hy
  · exact hV.cross x hx y hy
theorem join {A B A' B' : List α} (hc : ∀ x ∈ A, ∀ y ∈ B, lt y x = false) (pA : A'.Perm A) (pB : B'.Perm B) (sA : Sorted lt A') (sB : Sorted lt B') : Sorted lt (A' ++ B') :=
  Sorted.app sA sB fun x hx y hy => hc x (pA.mem_iff.1 hx) y (pB.mem_iff.1 hy)
theorem unique (h : TO lt) : ∀ {L M : List α}, Sorted lt L → Sorted lt M → L.Perm M → L = M
  | [], M, _, _, hp => (List.nil_perm.1 hp).symm
  | x :: L, M, hL, hM, hp => by
    cases M with
    | nil => exact absurd (List.perm_nil.1 hp) (by simp)
    | cons y M =>
      have hxy : x = y := by
        have hx : x ∈ y :: M := hp.mem_iff.1 List.mem_cons_self
        have hy : y ∈ x :: L := hp.mem_iff.2 List.mem_cons_self
        rcases List.mem_cons.1 hx with e | hx
        · exact e
        · rcases List.mem_cons.1 hy with e | hy
          · exact e.symm
          · exact h.anti _ _ ((List.pairwise_cons.1 hM).1 x hx) ((List.pairwise_cons.1 hL).1 y hy)
      subst hxy
      rw [unique h (List.pairwise_cons.1 hL).2 (List.pairwise_cons.1 hM).2 ((List.perm_cons x).1 hp)]
/-- Blocks of so many are sorted. -/
def Blocks (lt : α → α → Bool) (s : Nat) (L : List α) : Prop := ∀ k, Sorted lt ((L.drop (k * s)).take s)
theorem Blocks.all {s : Nat} {L : List α} (h : Blocks lt s L) (hs : L.length ≤ s) : Sorted lt L := by
  have := h 0
  rwa [Nat.zero_mul, List.drop_zero, List.take_of_length_le hs] at this
end Srt
end Go.Proofs.YtpkonagjnfphkaaGreatDoor

namespace Go.Proofs.YtpkonagjnfphkaaGreatDoor
open Go.RowKit
set_option linter.unusedSimpArgs false
set_option linter.unusedVariables false

section
variable {α : Type} {cells : α → List Value} {sz : Nat}
/-- The array of L in block b; J lies behind it. -/
abbrev Arr (w : World) (b : Nat) (T : TypeId) (J : List Value) (cells : α → List Value) (L : List α) : Prop := RowAt w b (L.flatMap cells ++ J).toArray T
theorem arr_len (hsz : ∀ x, (cells x).length = sz) : ∀ L : List α, (L.flatMap cells).length = L.length * sz
  | [] => by simp
  | x :: r => by rw [List.flatMap_cons, List.length_append, hsz, arr_len hsz r, List.length_cons, Nat.succ_mul, Nat.add_comm]
theorem arr_get (hsz : ∀ x, (cells x).length = sz) {J : List Value} : ∀ (L : List α) (i : Nat) (hi : i < L.length) (j : Nat), j < sz → (L.flatMap cells ++ J)[i * sz + j]? = (cells L[i])[j]?
  | [], i, hi, j, hj => by simp at hi
  | x :: r, 0, hi, j, hj => by
    rw [List.flatMap_cons, Nat.zero_mul, Nat.zero_add, List.append_assoc, List.getElem?_append_left (by rw [hsz]; exact hj)]
    rfl
  | x :: r, i + 1, hi, j, hj => by
    have := arr_get hsz (J := J) r i (by simpa using hi) j hj
    rw [List.flatMap_cons, List.append_assoc, List.getElem?_append_right (by rw [hsz, Nat.succ_mul]; omega), hsz, Nat.succ_mul, show i * sz + sz + j - sz = i * sz + j by omega, this]
    rfl
theorem Arr.rec {w : World} {b : Nat} {T : TypeId} {J : List Value} {L : List α} (h : Arr w b T J cells L) (hsz : ∀ x, (cells x).length = sz) {i : Nat} (hi : i < L.length) : w.rangeAt b (i * sz) (cells L[i]) := fun j v hj => by
  have hjs : j < sz := by
    have := (List.getElem?_eq_some_iff.1 hj).1
    rwa [hsz] at this
  exact RowAt.cell h (by rw [List.getElem?_toArray, arr_get hsz L i hi j hjs]; exact hj)
theorem arr_set (hsz : ∀ x, (cells x).length = sz) {J : List Value} (L : List α) (i : Nat) (hi : i < L.length) (x : α) : setAllA (L.flatMap cells ++ J).toArray (i * sz) (cells x) = ((L.set i x).flatMap cells ++ J).toArray := by
  have hl := arr_len hsz L
  have hl2 := arr_len hsz (L.set i x)
  rw [List.length_set] at hl2
  have hmul : i * sz + sz ≤ L.length * sz := by rw [← Nat.succ_mul]; exact Nat.mul_le_mul_right _ hi
  refine Array.ext_getElem? fun k => ?_
  rw [setAllA_get _ _ _ _ (by rw [hsz, List.size_toArray, List.length_append]; omega), hsz]
  by_cases hk : i * sz ≤ k ∧ k < i * sz + sz
  · rw [if_pos hk, List.getElem?_toArray]
    have := arr_get hsz (J := J) (L.set i x) i (by rw [List.length_set]; exact hi) (k - i * sz) (by omega)
    rw [show i * sz + (k - i * sz) = k by omega, List.getElem_set_self] at this
    rw [this]
  · rw [if_neg hk, List.getElem?_toArray, List.getElem?_toArray]
    by_cases hkl : k < L.length * sz
    · have hz : 0 < sz := by
        rcases Nat.eq_zero_or_pos sz with h0 | h0
        · rw [h0] at hkl; omega
        · exact h0
      have hq : k / sz < L.length := Nat.div_lt_of_lt_mul (by rw [Nat.mul_comm]; exact hkl)
      have hqe : k / sz * sz + k % sz = k := by rw [Nat.mul_comm]; exact Nat.div_add_mod k sz
      have hm : k % sz < sz := Nat.mod_lt _ hz
      have hne : i ≠ k / sz := by
        intro e
        rw [← e] at hqe
        omega
      have h1 := arr_get hsz (J := J) L (k / sz) hq (k % sz) hm
      have h2 := arr_get hsz (J := J) (L.set i x) (k / sz) (by rw [List.length_set]; exact hq) (k % sz) hm
      rw [hqe] at h1 h2
      rw [h1, h2, List.getElem_set_ne hne]
    · rw [List.getElem?_append_right (by omega), List.getElem?_append_right (by omega), hl, hl2]
theorem Arr.put {w : World} {b : Nat} {T : TypeId} {J : List Value} {L : List α} (h : Arr w b T J cells L) (hsz : ∀ x, (cells x).length = sz) {i : Nat} (hi : i < L.length) (x : α) : Arr (w.setCells b (i * sz) (cells x)) b T J cells (L.set i x) := by
  have := RowAt.sets (cells x) (i * sz) h
  rwa [arr_set hsz L i hi x] at this
theorem Arr.there {w : World} {b : Nat} {T : TypeId} {J : List Value} {L : List α} (h : Arr w b T J cells L) (hsz : ∀ x, (cells x).length = sz) {i : Nat} (hi : i < L.length) : w.there b (i * sz) sz := fun j hj => by
  have hl := arr_len hsz L
  have hmul : i * sz + sz ≤ L.length * sz := by rw [← Nat.succ_mul]; exact Nat.mul_le_mul_right _ hi
  exact ⟨by rw [RowAt.cell h (Array.getElem?_eq_getElem (by rw [List.size_toArray, List.length_append]; omega))]; rfl, RowAt.fz h _⟩
theorem Arr.at {w : World} {b : Nat} {T : TypeId} {J : List Value} {L : List α} (h : Arr w b T J cells L) (hsz : ∀ x, (cells x).length = sz) {i : Nat} {x : α} (hx : L[i]? = some x) : w.rangeAt b (i * sz) (cells x) := by
  obtain ⟨hi, rfl⟩ := List.getElem?_eq_some_iff.1 hx
  exact h.rec hsz hi
theorem drop_cons {X : List α} {j : Nat} {x : α} (h : X[j]? = some x) : X.drop j = x :: X.drop (j + 1) := by
  obtain ⟨hj, rfl⟩ := List.getElem?_eq_some_iff.1 h
  exact List.drop_eq_getElem_cons hj
theorem take_snoc {X : List α} {j : Nat} {x : α} (h : X[j]? = some x) : X.take (j + 1) = X.take j ++ [x] := by
  obtain ⟨hj, rfl⟩ := List.getElem?_eq_some_iff.1 h
  exact List.take_succ_eq_append_getElem hj
theorem mid_get (A : List α) (x : α) (B : List α) : (A ++ x :: B)[A.length]? = some x := by simp
/-- Two that are exchanged. -/
theorem two_get1 (A M B : List α) (x y : α) : (A ++ x :: M ++ y :: B)[A.length]? = some x := by simp
theorem two_get2 (A M B : List α) (x y : α) : (A ++ x :: M ++ y :: B)[A.length + 1 + M.length]? = some y := by
  rw [List.getElem?_append_right (by simp; omega)]
  simp
  rw [show A.length + 1 + M.length - (A.length + (M.length + 1)) = 0 by omega]; rfl
theorem two_set (A M B : List α) (x y : α) : ((A ++ x :: M ++ y :: B).set A.length y).set (A.length + 1 + M.length) x = A ++ y :: M ++ x :: B := by
  have h1 : (A ++ x :: M ++ y :: B).set A.length y = A ++ y :: M ++ y :: B := by
    rw [List.append_assoc, List.set_append_right _ _ (Nat.le_refl _), Nat.sub_self, List.append_assoc]; rfl
  rw [h1, List.set_append_right _ _ (by simp; omega)]
  simp
  rw [show A.length + 1 + M.length - (A.length + (M.length + 1)) = 0 by omega]; rfl
end
section
variable {P : Program} {ops : Array Oper} {Q : Exit → Act → World → Prop} {O : Nat → Prop}
theorem pt_cload {i : Nat} {o : Oper} {R : Act → World → Prop} {a : Act} {w : World} (hi : ops[i]? = some o) (hw : Region.wanted o (yielded ops a.tmps) = true) (ty : TypeId) (x : Operand) (ho : o.op = .load ty x)
    (b off : Nat) (hx : a.eval x = .pointer (some ⟨b, off, none⟩)) (cs : List Value) (d : TypeDesc) (hr : w.rangeAt b off cs) (hu : P.underlying ty = some d) (hd : d.isRow = true) (hn : (P.info? ty).map (·.size) = some cs.length)
    (h : R (a.put o.dst (.agg cs.toArray)) w) : ptStep P O ops Q i R a w :=
  ⟨o, hi, hw, by
    unfold Oper.wp execOp
    simp only [ho, hx, Instr.loadAt, Instr.sureAddr, Sem.run_bind, Sem.run_pure, Result.andThen_ok, run_loadVar_mid w b off ty cs d hr hu hd hn]
    exact ⟨But.refl _ _, h⟩⟩
theorem pt_put_at {i : Nat} {o : Oper} {R : Act → World → Prop} {a : Act} {w : World} (hi : ops[i]? = some o) (hw : Region.wanted o (yielded ops a.tmps) = true) (ty : TypeId) (x y : Operand) (ho : o.op = .store ty x y)
    (H off : Nat) (vs : List Value) (hx : a.eval x = .pointer (some ⟨H, off, none⟩)) (hy : a.eval y = .agg vs.toArray) (ht : w.there H off vs.length)
    (hi2 : (P.info? ty).map (·.size) = some vs.length) (h1 : vs.all (·.oneCell') = true) (hO : O H) (h : R (a.put o.dst undef) (w.setCells H off vs)) : ptStep P O ops Q i R a w :=
  ⟨o, hi, hw, wp_store_mid ty x y ho H off vs.toArray hx hy (by simpa using ht) (by simpa using hi2) (by simpa using h1) ⟨But.setCells _ _ _ hO, h⟩⟩
end
end Go.Proofs.YtpkonagjnfphkaaGreatDoor

namespace Go.Proofs.YtpkonagjnfphkaaGreatDoor
open Go.RowKit Srt
set_option linter.unusedSimpArgs false
set_option linter.unusedVariables false

/-- What a comparison says. -/
def Srt.ltc {α : Type} (cf : α → α → Int) (x y : α) : Bool := decide (cf x y < 0)
section
variable {α : Type} {cells : α → List Value} {cf : α → α → Int}
theorem ins_step (hT : TO (ltc cf)) {S S1 S2 R' X : List α} {x : α} (hSS : S1 ++ S2 = S) (hp : (S ++ x :: R').Perm X) (hS : Sorted (ltc cf) S) (h2 : ∀ y, S2.head? = some y → ltc cf y x = false) (h1 : ∀ z, S1.getLast? = some z → ltc cf x z = false) :
    (S1 ++ x :: S2 ++ R').Perm X ∧ Sorted (ltc cf) (S1 ++ x :: S2) := by
  subst hSS
  refine ⟨List.Perm.trans ?_ hp, ins_sorted hT hS h1 h2⟩
  rw [List.append_assoc, List.append_assoc, List.cons_append]
  exact List.Perm.append_left S1 List.perm_middle.symm
theorem swap_nb (A B : List α) (x y : α) : ((A ++ x :: y :: B).set A.length y).set (A.length + 1) x = A ++ y :: x :: B := by
  rw [List.set_append_right _ _ (Nat.le_refl _), Nat.sub_self, List.set_append_right _ _ (by simp)]
  rw [show A.length + 1 - A.length = 1 by omega]; rfl
theorem swap_bn (A B : List α) (x y : α) : ((A ++ x :: y :: B).set (A.length + 1) x).set A.length y = A ++ y :: x :: B := by
  rw [List.set_append_right _ _ (by simp), show A.length + 1 - A.length = 1 by omega, List.set_append_right _ _ (Nat.le_refl _), Nat.sub_self]; rfl
theorem nb_get1 (A B : List α) (x y : α) : (A ++ x :: y :: B)[A.length]? = some x := by simp
theorem nb_get2 (A B : List α) (x y : α) : (A ++ x :: y :: B)[A.length + 1]? = some y := by
  rw [List.getElem?_append_right (by simp), show A.length + 1 - A.length = 1 by omega]; rfl
end
end Go.Proofs.YtpkonagjnfphkaaGreatDoor
