/-
  The table and the reference's: alike behind each act.
-/
import Derived.Test.YtfoncaamhleckaaSeR
namespace Go.Proofs.Ytfoncaamhleckaa
open Go.RowKit Go.Maps Trc
set_option linter.unusedSimpArgs false
set_option linter.unusedVariables false

namespace Sn
theorem SrtE.nil : SrtE [] [] := ⟨List.Perm.refl _, List.Pairwise.nil⟩
theorem SrtE.has {E L : List (Sg × Int)} (h : SrtE E L) (s : Sg) : hasB L s = hasB E s := by
  rw [Bool.eq_iff_iff, hasB_iff, hasB_iff]
  exact (h.perm.map (·.1)).mem_iff
theorem SrtE.seeE {E L : List (Sg × Int)} (h : SrtE E L) (most : Int) (s : Sg) (u : Int) : seeE most L s u = seeE most E s u := by
  unfold Sn.seeE
  rw [h.has, h.len]
theorem SrtE.left {E L : List (Sg × Int)} (h : SrtE E L) (at_ : Int) : SrtE (left E at_) (left L at_) :=
  ⟨h.perm.filter _, h.lt.filter _⟩
theorem SrtE.uniq {E L L' : List (Sg × Int)} (h : SrtE E L) (h' : SrtE E L') : L = L' := by
  refine List.Perm.eq_of_pairwise (le := fun a b => ltS a.1 b.1) ?_ h.lt h'.lt (h.perm.trans h'.perm.symm)
  intro a b _ _ h1 h2
  exact (ltS_irrefl _ (ltS_trans h1 h2)).elim
theorem take_lt {L : List (Sg × Int)} {s : Sg} : ∀ p ∈ L.take (posT L s), ltS p.1 s := by
  have : ∀ L : List (Sg × Int), L.take (L.takeWhile fun p => ltB p.1 s).length = L.takeWhile fun p => ltB p.1 s := by
    intro L
    induction L with
    | nil => rfl
    | cons x l ih =>
      by_cases hx : ltB x.1 s = true
      · rw [List.takeWhile_cons_of_pos (by simpa using hx), List.length_cons, List.take_succ_cons, ih]
      · rw [List.takeWhile_cons_of_neg (by simpa using hx)]; rfl
  intro p hp
  unfold posT at hp
  rw [this] at hp
  have h := List.all_takeWhile (l := L) (p := fun p : Sg × Int => ltB p.1 s)
  rw [List.all_eq_true] at h
  exact (ltB_iff _ _).1 (h p hp)
theorem drop_ge {L : List (Sg × Int)} (hL : L.Pairwise fun p q => ltS p.1 q.1) {s : Sg} (hn : hasB L s = false) : ∀ p ∈ L.drop (posT L s), ltS s p.1 := by
  induction L with
  | nil => intro p hp; simp at hp
  | cons x l ih =>
    rw [List.pairwise_cons] at hL
    have hx := hasB_no hn x (List.mem_cons_self)
    have hl : hasB l s = false := by
      rw [Bool.eq_false_iff]
      intro hh
      obtain ⟨q, hq, he⟩ := List.mem_map.1 (hasB_iff.1 hh)
      exact hasB_no hn q (List.mem_cons_of_mem _ hq) he
    intro p hp
    unfold posT at hp
    by_cases hlt : ltB x.1 s = true
    · rw [List.takeWhile_cons_of_pos (by simpa using hlt), List.length_cons, List.drop_succ_cons] at hp
      exact ih hL.2 hl p hp
    · rw [List.takeWhile_cons_of_neg (by simpa using hlt), List.length_nil, List.drop_zero] at hp
      have h1 : ltS s x.1 := by
        rcases ltS_tri s x.1 with h | h | h
        · exact (hx h.symm).elim
        · exact h
        · exact (hlt ((ltB_iff _ _).2 h)).elim
      rcases List.mem_cons.1 hp with rfl | hp'
      · exact h1
      · exact ltS_trans h1 (hL.1 p hp')
theorem SrtE.see {E L : List (Sg × Int)} (h : SrtE E L) (most : Int) (s : Sg) (u : Int) : SrtE (seeL most E s u) (seeT most L s u) := by
  unfold seeL seeT
  rw [h.seeE]
  by_cases he : Sn.seeE most E s u = 0
  · rw [if_pos he, if_pos he]
    obtain ⟨_, _, hn, _⟩ := seeE_ok he
    rw [← h.has] at hn
    have hp : L.take (posT L s) ++ L.drop (posT L s) = L := List.take_append_drop _ _
    have hlt : (L.take (posT L s) ++ L.drop (posT L s)).Pairwise fun p q => ltS p.1 q.1 := by rw [hp]; exact h.lt
    rw [List.pairwise_append] at hlt
    refine ⟨?_, ?_⟩
    · unfold insT
      refine (List.perm_middle).trans ?_
      rw [hp]
      exact (List.Perm.cons _ h.perm).trans (List.perm_append_comm (l₁ := [(s, u)]) (l₂ := E))
    · unfold insT
      rw [List.pairwise_append, List.pairwise_cons]
      refine ⟨hlt.1, ⟨fun p hp => drop_ge h.lt hn p hp, hlt.2.1⟩, fun a ha b hb => ?_⟩
      rcases List.mem_cons.1 hb with rfl | hb'
      · exact take_lt a ha
      · exact hlt.2.2 a ha b hb'
  · rw [if_neg he, if_neg he]
    exact h
theorem SrtE.nodup {E L : List (Sg × Int)} (h : SrtE E L) (hn : (E.map (·.1)).Nodup) : (L.map (·.1)).Nodup := (h.perm.map (·.1)).nodup_iff.2 hn
theorem SrtE.lk {E L : List (Sg × Int)} (h : SrtE E L) (hn : (E.map (·.1)).Nodup) {s : Sg} (hh : hasB L s = true) : ∃ hk : atN L s < L.length, L[atN L s].2 = lk E s := by
  obtain ⟨hk, he⟩ := atN_lt hh
  refine ⟨hk, ?_⟩
  have h1 := get_nodup hn (h.perm.mem_iff.1 (List.getElem_mem hk))
  rw [he] at h1
  exact (lk_of h1).symm
theorem eqB_same {E1 E2 L1 L2 : List (Sg × Int)} (h1 : SrtE E1 L1) (h2 : SrtE E2 L2) (n1 : (E1.map (·.1)).Nodup) (n2 : (E2.map (·.1)).Nodup) : eqB E1 E2 = decide (L1 = L2) := by
  rw [Bool.eq_iff_iff, decide_eq_true_eq]
  unfold eqB
  rw [Bool.and_eq_true, decide_eq_true_eq, List.all_eq_true]
  constructor
  · rintro ⟨hl, ha⟩
    have hsub : ∀ x ∈ E1, x ∈ E2 := fun x hx => get_mem (of_decide_eq_true (ha x hx))
    have d1 : E1.Nodup := List.Pairwise.of_map (·.1) (fun a b h e => h (by rw [e])) n1
    have d2 : E2.Nodup := List.Pairwise.of_map (·.1) (fun a b h e => h (by rw [e])) n2
    have hp : E1.Perm E2 := by
      rw [List.perm_ext_iff_of_nodup d1 d2]
      refine fun x => ⟨hsub x, fun hx => ?_⟩
      by_cases hx1 : x ∈ E1
      · exact hx1
      · exfalso
        have hle := nodup_sub_len (A := x :: E1) (B := E2) (List.nodup_cons.2 ⟨hx1, d1⟩) (fun y hy => by
          rcases List.mem_cons.1 hy with rfl | hy'
          · exact hx
          · exact hsub y hy')
        rw [List.length_cons] at hle
        omega
    exact SrtE.uniq h1 ⟨h2.perm.trans hp.symm, h2.lt⟩
  · rintro rfl
    have hp : E1.Perm E2 := h1.perm.symm.trans h2.perm
    exact ⟨hp.length_eq, fun p hp1 => decide_eq_true (get_nodup n2 (hp.mem_iff.1 hp1))⟩
end Sn
end Go.Proofs.Ytfoncaamhleckaa
