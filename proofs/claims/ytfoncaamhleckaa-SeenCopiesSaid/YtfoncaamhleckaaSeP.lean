/-
  SeenHolds' plain law: what is seen, seen again the other way round, and pruned.
-/
import Derived.Test.YtfoncaamhleckaaSeE
import Derived.Test.YtfoncaamhleckaaSeF
namespace Go.Proofs.Ytfoncaamhleckaa
open Go.RowKit Go.Maps Trc
set_option linter.unusedSimpArgs false
set_option linter.unusedVariables false

namespace Sn
/-- A call: what, of which sight, until when. -/
structure Ac where
  what : Int
  s : Sg
  at_ : Int
def zac : Ac := ⟨0, zsg, 0⟩
theorem seeE_cases (E : List (Sg × Int)) (s : Sg) (u : Int) (h : (E.length : Int) < 100) :
    (seeE 100 E s u = 2) ∨ (seeE 100 E s u = 150 ∧ hasB E s = true) ∨ (seeE 100 E s u = 0 ∧ hasB E s = false) := by
  unfold seeE
  split
  · exact .inl rfl
  · split
    · rename_i h2; exact .inr (.inl ⟨rfl, h2⟩)
    · rename_i h2
      rw [if_neg (by omega)]
      exact .inr (.inr ⟨rfl, by simpa using h2⟩)
theorem get_none {E : List (Sg × Int)} {s : Sg} (h : hasB E s = false) : get E s = none := by
  unfold hasB at h
  cases hg : get E s with
  | none => rfl
  | some q => rw [hg] at h; cases h
theorem get_lk {E : List (Sg × Int)} {s : Sg} (h : hasB E s = true) : (s, lk E s) ∈ E := by
  unfold hasB at h
  cases hg : get E s with
  | none => rw [hg] at h; cases h
  | some q =>
    have h1 := get_mem hg
    have h2 := get_key hg
    rw [lk_of hg, ← h2]
    exact h1
/-- What the table holds behind the calls. -/
def eAll (cs : List Ac) : List (Sg × Int) := cs.foldl (fun E a => seeL 100 E a.s a.at_) []
theorem eAll_succ {cs : List Ac} {k : Nat} (h : k < cs.length) : eAll (cs.take (k + 1)) = seeL 100 (eAll (cs.take k)) cs[k].s cs[k].at_ := by
  unfold eAll
  rw [List.take_succ_eq_append_getElem h, List.foldl_append]
  rfl
structure EOk (cs : List Ac) (E : List (Sg × Int)) : Prop where
  ok : ∀ p ∈ E, nmOk p.1 = true ∧ farB p.2 = false ∧ p.1 ∈ cs.map (·.s)
  nodup : (E.map (·.1)).Nodup
  len : E.length ≤ cs.length
theorem EOk.mono {cs bs : List Ac} {E : List (Sg × Int)} (h : EOk cs E) (hs : ∀ a ∈ cs, a ∈ bs) (hl : cs.length ≤ bs.length) : EOk bs E :=
  ⟨fun p hp => ⟨(h.ok p hp).1, (h.ok p hp).2.1, by obtain ⟨a, ha, he⟩ := List.mem_map.1 (h.ok p hp).2.2; exact List.mem_map.2 ⟨a, hs a ha, he⟩⟩, h.nodup, Nat.le_trans h.len hl⟩
theorem EOk.step {cs : List Ac} {E : List (Sg × Int)} (h : EOk cs E) (a : Ac) : EOk (cs ++ [a]) (seeL 100 E a.s a.at_) := by
  have h1 : EOk (cs ++ [a]) E := h.mono (fun x hx => by simp [hx]) (by simp)
  unfold seeL
  split
  · rename_i he
    obtain ⟨h2, h3, h4, _⟩ := seeE_ok he
    refine ⟨fun p hp => ?_, ?_, by have := h.len; simp; omega⟩
    · rcases List.mem_append.1 hp with hp | hp
      · exact h1.ok p hp
      · obtain rfl := List.mem_singleton.1 hp
        exact ⟨h2, h3, by simp⟩
    · rw [List.map_append, List.nodup_append]
      refine ⟨h.nodup, by simp, fun x hx y hy e => ?_⟩
      obtain ⟨p, hp, rfl⟩ := List.mem_map.1 hx
      simp at hy
      exact hasB_no h4 p hp (e.trans hy)
  · exact h1
theorem eAll_ok (cs : List Ac) : ∀ k, k ≤ cs.length → EOk (cs.take k) (eAll (cs.take k))
  | 0, _ => ⟨fun p hp => by simp [eAll] at hp, by simp [eAll], by simp [eAll]⟩
  | k + 1, h => by
    rw [eAll_succ (by omega), List.take_succ_eq_append_getElem (by omega)]
    exact (eAll_ok cs k (by omega)).step _
/-- What the other table holds, from the end on. -/
def oStep (E : List (Sg × Int)) (a : Ac) (O : List (Sg × Int)) : List (Sg × Int) := if hasB E a.s = true then seeL 100 O a.s (lk E a.s) else O
def oAll (E : List (Sg × Int)) (cs : List Ac) : List (Sg × Int) := cs.foldr (oStep E) []
theorem oAll_drop {E : List (Sg × Int)} {cs : List Ac} {k : Nat} (h : k < cs.length) : oAll E (cs.drop k) = oStep E cs[k] (oAll E (cs.drop (k + 1))) := by
  rw [List.drop_eq_getElem_cons h]; rfl
structure OOk (E : List (Sg × Int)) (cs : List Ac) (O : List (Sg × Int)) : Prop where
  sub : ∀ p ∈ O, p ∈ E
  nodup : (O.map (·.1)).Nodup
  all : ∀ a ∈ cs, hasB E a.s = true → hasB O a.s = true
theorem nodup_sub_len {α : Type} [DecidableEq α] : ∀ {A B : List α}, A.Nodup → (∀ x ∈ A, x ∈ B) → A.length ≤ B.length
  | [], _, _, _ => by simp
  | x :: A, B, hn, hs => by
    rw [List.nodup_cons] at hn
    obtain ⟨B1, B2, rfl⟩ := List.append_of_mem (hs x (by simp))
    have := nodup_sub_len (A := A) (B := B1 ++ B2) hn.2 (fun y hy => by
      have h1 := hs y (by simp [hy])
      have h2 : y ≠ x := fun e => hn.1 (e ▸ hy)
      simp at h1 ⊢
      rcases h1 with h1 | h1 | h1
      · exact .inl h1
      · exact absurd h1 h2
      · exact .inr h1)
    simp at this ⊢
    omega
theorem OOk.len {E O : List (Sg × Int)} {cs : List Ac} (h : OOk E cs O) : O.length ≤ E.length := by
  have h1 := nodup_sub_len (A := O.map (·.1)) (B := E.map (·.1)) h.nodup (fun x hx => by
    obtain ⟨p, hp, rfl⟩ := List.mem_map.1 hx
    exact List.mem_map.2 ⟨p, h.sub p hp, rfl⟩)
  simpa using h1
theorem oStep_ok {bs cs : List Ac} {E O : List (Sg × Int)} (hE : EOk bs E) (hl : E.length < 100) (h : OOk E cs O) (a : Ac) : OOk E (a :: cs) (oStep E a O) := by
  unfold oStep
  split
  · rename_i hh
    have hm := get_lk hh
    have hok := hE.ok _ hm
    have hol := h.len
    simp only at hok
    have hv : seeE 100 O a.s (lk E a.s) = if hasB O a.s = true then 150 else if (100 : Int) ≤ (O.length : Int) then 230 else 0 := by
      unfold seeE
      rw [if_neg (by rw [hok.1, hok.2.1]; simp)]
    unfold seeL
    by_cases ho : hasB O a.s = true
    · rw [hv, if_pos ho, if_neg (by decide)]
      exact ⟨h.sub, h.nodup, fun b hb hb2 => by rcases List.mem_cons.1 hb with rfl | hb; exact ho; exact h.all b hb hb2⟩
    · have h100 : ¬ (100 : Int) ≤ (O.length : Int) := by omega
      rw [hv, if_neg ho, if_neg h100, if_pos rfl]
      have ho' : hasB O a.s = false := by simpa using ho
      refine ⟨fun p hp => ?_, ?_, fun b hb hb2 => ?_⟩
      · rcases List.mem_append.1 hp with hp | hp
        · exact h.sub p hp
        · obtain rfl := List.mem_singleton.1 hp; exact hm
      · rw [List.map_append, List.nodup_append]
        refine ⟨h.nodup, by simp, fun x hx y hy e => ?_⟩
        obtain ⟨p, hp, rfl⟩ := List.mem_map.1 hx
        simp at hy
        exact hasB_no ho' p hp (e.trans hy)
      · rw [hasB_iff, List.map_append, List.mem_append]
        rcases List.mem_cons.1 hb with rfl | hb
        · exact .inr (by simp)
        · exact .inl (hasB_iff.1 (h.all b hb hb2))
  · rename_i hh
    exact ⟨h.sub, h.nodup, fun b hb hb2 => by rcases List.mem_cons.1 hb with rfl | hb; exact absurd hb2 hh; exact h.all b hb hb2⟩
theorem oAll_ok {bs : List Ac} {E : List (Sg × Int)} (hE : EOk bs E) (hl : E.length < 100) : ∀ cs : List Ac, OOk E cs (oAll E cs)
  | [] => ⟨fun p hp => by simp [oAll] at hp, by simp [oAll], fun a ha => by cases ha⟩
  | a :: cs => oStep_ok hE hl (oAll_ok hE hl cs) a
theorem get_eq {E : List (Sg × Int)} (hn : (E.map (·.1)).Nodup) {p : Sg × Int} (hp : p ∈ E) : get E p.1 = some p := get_nodup hn hp
theorem eq_all {cs : List Ac} {E O : List (Sg × Int)} (hE : EOk cs E) (hO : OOk E cs O) : eqB E O = true := by
  have h1 : ∀ p ∈ E, get O p.1 = some p := fun p hp => by
    obtain ⟨a, ha, he⟩ := List.mem_map.1 (hE.ok p hp).2.2
    have hh : hasB E a.s = true := hasB_iff.2 (List.mem_map.2 ⟨p, hp, he.symm⟩)
    have h2 := hO.all a ha hh
    have h3 := get_lk h2
    have h4 := hO.sub _ h3
    have h5 := get_eq hE.nodup h4
    have h6 := get_eq hE.nodup hp
    simp only at h5
    rw [he] at h5 h3
    rw [h6] at h5
    rw [Option.some.injEq] at h5
    rw [← h5] at h3
    exact get_eq hO.nodup h3
  unfold eqB
  rw [Bool.and_eq_true, decide_eq_true_eq, List.all_eq_true]
  refine ⟨?_, fun p hp => decide_eq_true (h1 p hp)⟩
  have h2 := nodup_sub_len (A := E.map (·.1)) (B := O.map (·.1)) hE.nodup (fun x hx => by
    obtain ⟨p, hp, rfl⟩ := List.mem_map.1 hx
    exact List.mem_map.2 ⟨p, get_mem (h1 p hp), rfl⟩)
  have h3 := hO.len
  simp at h2
  omega
/-- What is fresh yet. -/
def gAll (E : List (Sg × Int)) (at_ : Int) (cs : List Ac) : List (Sg × Int) := E.filter fun p => !(decide (p.2 ≤ at_) && decide (p.1 ∈ cs.map (·.s)))
theorem gAll_start (E : List (Sg × Int)) (at_ : Int) : gAll E at_ [] = E := by
  unfold gAll; rw [List.filter_eq_self]; intro p _; simp
theorem gAll_end {cs : List Ac} {E : List (Sg × Int)} (hE : EOk cs E) (at_ : Int) : gAll E at_ cs = left E at_ := by
  unfold gAll left
  refine List.filter_congr fun p hp => ?_
  have := (hE.ok p hp).2.2
  rw [decide_eq_true this, Bool.and_true]
  by_cases h : p.2 ≤ at_
  · rw [decide_eq_true h, decide_eq_false (by omega)]; rfl
  · rw [decide_eq_false h, decide_eq_true (by omega)]; rfl
theorem gAll_nodup {cs bs : List Ac} {E : List (Sg × Int)} (hE : EOk cs E) (at_ : Int) : ((gAll E at_ bs).map (·.1)).Nodup := (List.Sublist.map _ List.filter_sublist).nodup hE.nodup
theorem gAll_lk {cs bs : List Ac} {E : List (Sg × Int)} {at_ : Int} {s : Sg} (hE : EOk cs E) (h : hasB (gAll E at_ bs) s = true) : lk (gAll E at_ bs) s = lk E s ∧ (s, lk E s) ∈ gAll E at_ bs ∧ hasB (left E at_) s = decide (at_ < lk E s) := by
  have h1 := get_lk h
  have h2 : (s, lk (gAll E at_ bs) s) ∈ E := (List.mem_filter.1 h1).1
  have h3 := lk_of (get_eq hE.nodup h2)
  simp only at h3
  refine ⟨h3.symm, by rw [h3]; exact h1, ?_⟩
  rw [Bool.eq_iff_iff, hasB_iff, decide_eq_true_eq]
  constructor
  · intro hm
    obtain ⟨p, hp, hps⟩ := List.mem_map.1 hm
    obtain ⟨hp1, hp2⟩ := List.mem_filter.1 hp
    have := lk_of (get_eq hE.nodup hp1)
    rw [hps] at this
    rw [this]
    exact of_decide_eq_true hp2
  · intro hlt
    rw [← h3] at h2
    exact List.mem_map.2 ⟨_, List.mem_filter.2 ⟨h2, decide_eq_true hlt⟩, rfl⟩
theorem gAll_stay {cs bs : List Ac} {E : List (Sg × Int)} {at_ : Int} (hE : EOk cs E) (a : Ac) (h : hasB (gAll E at_ bs) a.s = true → ¬ lk E a.s ≤ at_) : gAll E at_ (bs ++ [a]) = gAll E at_ bs := by
  unfold gAll
  refine List.filter_congr fun p hp => ?_
  by_cases hle : p.2 ≤ at_
  · rw [decide_eq_true hle, Bool.true_and, Bool.true_and]
    by_cases hm : p.1 ∈ bs.map (·.s)
    · rw [decide_eq_true hm, decide_eq_true (by rw [List.map_append]; exact List.mem_append.2 (.inl hm))]
    · rw [decide_eq_false hm]
      by_cases hpa : p.1 = a.s
      · exfalso
        have hh : hasB (gAll E at_ bs) a.s = true := hasB_iff.2 (List.mem_map.2 ⟨p, List.mem_filter.2 ⟨hp, by rw [decide_eq_false hm, Bool.and_false]; rfl⟩, hpa⟩)
        have := h hh
        rw [← hpa, lk_of (get_eq hE.nodup hp)] at this
        exact this hle
      · rw [decide_eq_false (by rw [List.map_append, List.mem_append]; rintro (h1 | h1); exact hm h1; simp at h1; exact hpa h1)]
  · rw [decide_eq_false hle, Bool.false_and, Bool.false_and]
theorem filter_ne_key {A B : List (Sg × Int)} {q : Sg × Int} (hn : ((A ++ q :: B).map (·.1)).Nodup) : (A ++ q :: B).filter (fun p => !(decide (p.1 = q.1))) = A ++ B := by
  rw [List.map_append, List.map_cons, List.nodup_append, List.nodup_cons] at hn
  rw [List.filter_append, List.filter_cons]
  have h1 : A.filter (fun p => !(decide (p.1 = q.1))) = A := by
    rw [List.filter_eq_self]
    intro x hx
    have := hn.2.2 x.1 (List.mem_map.2 ⟨x, hx, rfl⟩) q.1 (by simp)
    simp [this]
  have h2 : B.filter (fun p => !(decide (p.1 = q.1))) = B := by
    rw [List.filter_eq_self]
    intro x hx
    have : ¬ x.1 = q.1 := fun e' => hn.2.1.1 (List.mem_map.2 ⟨x, hx, e'⟩)
    simp [this]
  rw [h1, h2]
  simp
theorem gAll_gone {cs bs : List Ac} {E A B : List (Sg × Int)} {at_ : Int} (hE : EOk cs E) (a : Ac) (hle : lk E a.s ≤ at_) (h : gAll E at_ bs = A ++ (a.s, lk E a.s) :: B) : gAll E at_ (bs ++ [a]) = A ++ B := by
  have hn : ((A ++ (a.s, lk E a.s) :: B).map (·.1)).Nodup := by rw [← h]; exact gAll_nodup hE at_
  rw [← filter_ne_key hn, ← h]
  unfold gAll
  rw [List.filter_filter]
  refine List.filter_congr fun p hp => ?_
  simp only [List.map_append, List.map_cons, List.map_nil, List.mem_append, List.mem_singleton]
  by_cases hpa : p.1 = a.s
  · have hlk : lk E a.s = p.2 := by rw [← hpa]; exact lk_of (get_eq hE.nodup hp)
    have h1 : p.2 ≤ at_ := by omega
    simp [hpa, h1]
  · simp [hpa]
end Sn
abbrev acC (a : Sn.Ac) : List Value := [.int .i64 a.what, .int .u32 a.s.n.node, .int .u32 a.s.n.service, .int .u64 a.s.n.time, .int .u32 a.s.n.seq, .bool a.s.b, .int .u8 a.s.c, .int .u64 a.at_]
theorem ac_sight {w : World} {b o : Nat} {a : Sn.Ac} (h : w.rangeAt b o (acC a)) : w.rangeAt b (o + 1) (sgC a.s) := fun j v hj => by
  have := h (j + 1) v (by rw [List.getElem?_cons_succ]; show (sgC a.s ++ [.int .u64 a.at_])[j]? = some v; rw [List.getElem?_append_left (List.getElem?_eq_some_iff.1 hj).1]; exact hj)
  rwa [show o + 1 + j = o + (j + 1) by omega]
theorem wpList_del {P : Program} {ops : Array Oper} {rest : List Oper} {o : Oper} {a : Act} {w w' : World} {Q : Exit → Act → World → Prop} (hgd : o.guard = none) (t kt : TypeId) (m x : Operand)
    (ho : o.op = .call { callee := .builtin .delete, args := #[m, x], argTypes := #[t, kt] }) {mv xv : Value} (hm : a.eval m = mv) (hx : a.eval x = xv) {u : Value} (hr : (Builtin.delete_ #[t, kt] o.type #[mv, xv]).run P w = .ok u w')
    (h : wpList P ops Q rest (a.put o.dst u) w') : wpList P ops Q (o :: rest) a w :=
  wpList_plain hgd fun _ hK => by
    unfold Oper.wp execOp
    simp only [ho, resolve, invoke, builtin, Sem.run_bind, Sem.run_pure, Result.andThen_ok, List.map_toArray, List.map_cons, List.map_nil, hm, hx, hr]
    exact hK _ _ h
end Go.Proofs.Ytfoncaamhleckaa
