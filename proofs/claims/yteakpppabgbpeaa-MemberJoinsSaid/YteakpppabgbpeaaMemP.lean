/-
  The roll and the reference's sorted list tell the same. No walk.
-/
import Derived.Test.YteakpppabgbpeaaMemO
namespace Go.Proofs.Yteakpppabgbpeaa
open Go.RowKit Mem
set_option linter.unusedSimpArgs false
set_option linter.unusedVariables false

namespace Mem
theorem ltM_trans {a b c : Mb} (h1 : ltM a b) (h2 : ltM b c) : ltM a c := by unfold ltM at *; omega
theorem lessB_iff (x y : Int) (m : Mb) : lessB x y m = true ↔ m.node < x ∨ m.node = x ∧ m.region < y := by simp [lessB]
theorem not_less {x y : Int} {m : Mb} (h : lessB x y m = false) : ¬ (m.node < x ∨ m.node = x ∧ m.region < y) := by
  intro e; rw [(lessB_iff x y m).2 e] at h; cases h
/-- What stands ahead of a key's place is less; what stands there or behind it is not. -/
theorem findK_ahead {L : List Mb} {x y : Int} {j : Nat} (hj : j < findK L x y) (hl : j < L.length) : lessB x y L[j] = true := by
  unfold findK at hj
  have := List.not_of_lt_findIdx hj
  simpa using this
theorem findK_not {L : List Mb} {x y : Int} (h : findK L x y < L.length) : lessB x y L[findK L x y] = false := by
  have h1 : L.findIdx (fun m => !lessB x y m) < L.length := h
  have := List.findIdx_getElem (w := h1)
  simpa [findK] using this
theorem findK_behind {L : List Mb} {x y : Int} (hs : L.Pairwise ltM) {j : Nat} (hj : findK L x y ≤ j) (hl : j < L.length) : lessB x y L[j] = false := by
  have hk : findK L x y < L.length := Nat.lt_of_le_of_lt hj hl
  have h0 := not_less (findK_not hk)
  rcases Nat.lt_or_ge (findK L x y) j with h1 | h1
  · have h2 := List.pairwise_iff_getElem.1 hs _ j hk hl h1
    rw [Bool.eq_false_iff, Ne, lessB_iff]
    unfold ltM at h2
    omega
  · have : findK L x y = j := by omega
    simp only [this] at h0
    rw [Bool.eq_false_iff, Ne, lessB_iff]
    exact h0
theorem find_ref {E L : List Mb} (hk : Keys E) (hs : SrtOf E L) (x y : Int) : find E x y = if findB L x y = true then some (mbAt L (findK L x y)) else none := by
  cases hb : findB L x y with
  | true =>
    have hl := findB_lt hb
    rw [if_pos rfl, mbAt_get hl]
    rw [findB_at hl rfl] at hb
    simp only [ofB, Bool.and_eq_true, decide_eq_true_eq] at hb
    have := hk.find (hs.perm.mem_iff.1 (List.getElem_mem hl))
    rwa [hb.1, hb.2] at this
  | false =>
    rw [if_neg (by decide)]
    unfold find
    rw [List.find?_eq_none]
    intro m hm hof
    simp only [ofB, Bool.and_eq_true, decide_eq_true_eq] at hof
    obtain ⟨j, hj, rfl⟩ := List.getElem_of_mem (hs.perm.mem_iff.2 hm)
    have h1 : findK L x y ≤ j := by
      rcases Nat.lt_or_ge j (findK L x y) with h | h
      · have := (lessB_iff x y _).1 (findK_ahead h hj); omega
      · exact h
    have hkl : findK L x y < L.length := Nat.lt_of_le_of_lt h1 hj
    rcases Nat.lt_or_ge (findK L x y) j with h2 | h2
    · have h3 := List.pairwise_iff_getElem.1 hs.lt _ j hkl hj h2
      have h4 := not_less (findK_not hkl)
      unfold ltM at h3
      omega
    · have h3 : findK L x y = j := by omega
      rw [findB_at hkl rfl] at hb
      simp only [h3] at hb
      simp [ofB, hof.1, hof.2] at hb
theorem find_some_ref {E L : List Mb} (hk : Keys E) (hs : SrtOf E L) {x y : Int} (hb : findB L x y = true) : find E x y = some (mbAt L (findK L x y)) := by rw [find_ref hk hs, if_pos hb]
theorem find_none_ref {E L : List Mb} (hk : Keys E) (hs : SrtOf E L) {x y : Int} (hb : findB L x y = false) : find E x y = none := by rw [find_ref hk hs, hb]; rfl
theorem has_ref {E L : List Mb} (hk : Keys E) (hs : SrtOf E L) (x y : Int) : hasB E x y = hasR L x y := by
  unfold hasB hasR
  rw [find_ref hk hs]
  cases findB L x y with
  | true => rfl
  | false => rfl
theorem tellE_ref {E L : List Mb} (hk : Keys E) (hs : SrtOf E L) (m : Mb) : tellE E m = rtE L m := by
  unfold tellE rtE oldB fullB
  rw [find_ref hk hs, hs.len]
  cases zB m with
  | true => rfl
  | false =>
    cases findB L m.node m.region with
    | true =>
      cases ho : outB m (mbAt L (findK L m.node m.region)) with
      | true => simp [ho]
      | false => simp [ho]
    | false => simp
theorem set_pair {L : List Mb} (h : L.Pairwise ltM) {k : Nat} {m : Mb} (hk : k < L.length) (h1 : L[k].node = m.node) (h2 : L[k].region = m.region) : (L.set k m).Pairwise ltM := by
  rw [List.pairwise_iff_getElem] at h ⊢
  intro i j hi hj hij
  simp only [List.length_set] at hi hj
  have h3 := h i j hi hj hij
  rw [List.getElem_set, List.getElem_set]
  unfold ltM at *
  split <;> split
  · omega
  · rename_i e _; subst e; omega
  · rename_i _ e; subst e; omega
  · exact h3
theorem tellF_ref {E L : List Mb} (hk : Keys E) (hs : SrtOf E L) (m : Mb) : SrtOf (tellF E m) (rtF L m) := by
  unfold tellF rtF
  rw [tellE_ref hk hs m]
  by_cases h0 : rtE L m = 0
  · rw [if_pos h0, if_pos h0]
    cases hb : findB L m.node m.region with
    | true =>
      rw [if_pos rfl]
      have hl := findB_lt hb
      have hf := find_some_ref hk hs hb
      rw [mbAt_get hl] at hf
      obtain ⟨a, b, e1, e2⟩ := putF_some hf
      obtain ⟨_, h1, h2⟩ := find_some hf
      refine ⟨?_, set_pair hs.lt hl h1 h2⟩
      rw [e2]
      have hp := hs.perm
      rw [e1] at hp
      have hsp : L.take (findK L m.node m.region) ++ L[findK L m.node m.region] :: L.drop (findK L m.node m.region + 1) = L := by
        rw [← List.drop_eq_getElem_cons hl, List.take_append_drop]
      have hset : L.set (findK L m.node m.region) m = L.take (findK L m.node m.region) ++ m :: L.drop (findK L m.node m.region + 1) := by
        rw [List.set_eq_take_append_cons_drop, if_pos hl]
      rw [hset]
      have hp2 : (L.take (findK L m.node m.region) ++ L[findK L m.node m.region] :: L.drop (findK L m.node m.region + 1)).Perm (a ++ L[findK L m.node m.region] :: b) := by rw [hsp]; exact hp
      have h3 := (List.perm_middle.symm.trans hp2).trans List.perm_middle
      exact List.perm_middle.trans ((h3.cons_inv.cons m).trans List.perm_middle.symm)
    | false =>
      rw [if_neg (by decide), putF_none (find_none_ref hk hs hb)]
      have hno := find_none_ref hk hs hb
      refine ⟨?_, ?_⟩
      · refine List.perm_middle.trans ?_
        rw [List.take_append_drop]
        exact (hs.perm.cons m).trans (List.perm_append_comm (l₁ := [m]) (l₂ := E))
      · rw [List.pairwise_append, List.pairwise_cons]
        have hd : ∀ x ∈ L.drop (findK L m.node m.region), ltM m x := by
          intro x hx
          obtain ⟨j, hj, rfl⟩ := List.getElem_of_mem hx
          have hj' : findK L m.node m.region + j < L.length := by simp at hj; omega
          have h1 := not_less (findK_behind hs.lt (x := m.node) (y := m.region) (Nat.le_add_right _ j) hj')
          have h2 := find_none hno (hs.perm.mem_iff.1 (List.getElem_mem hj'))
          rw [List.getElem_drop]
          unfold ltM
          omega
        refine ⟨hs.lt.sublist (List.take_sublist _ _), ⟨hd, hs.lt.sublist (List.drop_sublist _ _)⟩, fun a ha b hb' => ?_⟩
        obtain ⟨i, hi, rfl⟩ := List.getElem_of_mem ha
        have hi1 : i < findK L m.node m.region := by simp at hi; omega
        have hi2 : i < L.length := by simp at hi; omega
        have h1 : ltM L[i] m := (lessB_iff _ _ _).1 (findK_ahead hi1 hi2)
        rw [List.getElem_take]
        rcases List.mem_cons.1 hb' with rfl | hb'
        · exact h1
        · exact ltM_trans h1 (hd b hb')
  · rw [if_neg h0, if_neg h0]; exact hs
/-- The reference's Join. -/
def rjF (L l : List Mb) : List Mb := l.foldl rtF L
def rjN : List Mb → List Mb → Nat
  | _, [] => 0
  | L, m :: r => (if rtE L m = 0 then 1 else 0) + rjN (rtF L m) r
theorem rjF_snoc (L l : List Mb) (m : Mb) : rjF L (l ++ [m]) = rtF (rjF L l) m := by simp [rjF]
theorem rjN_snoc (m : Mb) : ∀ (l L : List Mb), rjN L (l ++ [m]) = rjN L l + if rtE (rjF L l) m = 0 then 1 else 0
  | [], L => by
    show (if rtE L m = 0 then 1 else 0) + 0 = 0 + _
    rw [Nat.add_zero, Nat.zero_add]; rfl
  | x :: l, L => by
    have h1 := rjN_snoc m l (rtF L x)
    show (if rtE L x = 0 then 1 else 0) + rjN (rtF L x) (l ++ [m]) = _
    rw [h1, ← Nat.add_assoc]
    rfl
theorem rjN_le : ∀ (l L : List Mb), rjN L l ≤ l.length
  | [], L => Nat.zero_le _
  | x :: l, L => by
    have h1 := rjN_le l (rtF L x)
    show (if rtE L x = 0 then 1 else 0) + rjN (rtF L x) l ≤ _
    simp only [List.length_cons]
    split <;> omega
theorem join_ref : ∀ (l E L : List Mb), Keys E → SrtOf E L → E.length + l.length ≤ 512 → SrtOf (joinE E l) (rjF L l) ∧ joinN E l = rjN L l ∧ Keys (joinE E l) ∧ (joinE E l).length ≤ E.length + l.length
  | [], E, L, hk, hs, _ => ⟨hs, rfl, hk, by simp [joinE]⟩
  | m :: l, E, L, hk, hs, hl => by
    simp only [List.length_cons] at hl
    have h1 := hk.tell m (by omega)
    obtain ⟨h2, h3, h4, h5⟩ := join_ref l (tellF E m) (rtF L m) h1.1 (tellF_ref hk hs m) (by omega)
    refine ⟨h2, ?_, h4, by simp only [List.length_cons]; show (joinE (tellF E m) l).length ≤ _; omega⟩
    show (if tellE E m = 0 then 1 else 0) + joinN (tellF E m) l = (if rtE L m = 0 then 1 else 0) + rjN (rtF L m) l
    rw [tellE_ref hk hs, h3]
theorem eqB_ref {E1 E2 L1 L2 : List Mb} (k1 : Keys E1) (k2 : Keys E2) (h1 : SrtOf E1 L1) (h2 : SrtOf E2 L2) : eqB E1 E2 = decide (L1 = L2) := by
  rw [Bool.eq_iff_iff, decide_eq_true_eq]
  unfold Mem.eqB
  rw [Bool.and_eq_true, decide_eq_true_eq, List.all_eq_true]
  constructor
  · rintro ⟨hl, ha⟩
    have hsub : E1 ⊆ E2 := fun m hm => (find_some (by simpa using ha m hm)).1
    have hp : E1.Perm E2 := (List.perm_ext_iff_of_nodup k1.nodup k2.nodup).2 fun m => ⟨fun h => hsub h, fun h => Classical.byContradiction fun hn => by
      have := List.Nodup.length_le_of_subset (l₁ := m :: E1) (l₂ := E2) (List.nodup_cons.2 ⟨hn, k1.nodup⟩) (fun x hx => by
        rcases List.mem_cons.1 hx with rfl | hx
        · exact h
        · exact hsub hx)
      simp only [List.length_cons] at this
      omega⟩
    exact h2.uniq (h1.perm.trans hp) (h1.lt.imp fun h3 => by unfold ltM at *; omega)
  · rintro rfl
    have hp : E1.Perm E2 := h1.perm.symm.trans h2.perm
    exact ⟨hp.length_eq, fun m hm => decide_eq_true (k2.find (hp.mem_iff.1 hm))⟩
end Mem
end Go.Proofs.Yteakpppabgbpeaa
