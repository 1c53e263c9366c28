/-
  The plain law of ContactHolds: contacts that were added, in any order, are one plan; at each time there is one at most.
-/
import Derived.Test.YtgbpdchdcbnoaaaConK
import Derived.Test.YtgbpdchdcbnoaaaRecOpen
namespace Go.Proofs.Ytgbpdchdcbnoaaa
open Go.RowKit Vol
set_option linter.unusedSimpArgs false
set_option linter.unusedVariables false

namespace Vol
theorem sorted_perm_eq : ∀ {L M : List Ct}, (L.Pairwise fun a b => ordF a b < 0) → (M.Pairwise fun a b => ordF a b < 0) → L.Perm M → L = M
  | [], M, _, _, h => by rw [List.nil_perm.1 h]
  | x :: L, [], _, _, h => by have := h.length_eq; simp at this
  | x :: L, y :: M, h1, h2, h => by
    have e : x = y := by
      rw [List.pairwise_cons] at h1 h2
      have hx := h.mem_iff.1 (show x ∈ x :: L by simp)
      have hy := h.mem_iff.2 (show y ∈ y :: M by simp)
      rcases List.mem_cons.1 hx with hx | hx
      · exact hx
      · rcases List.mem_cons.1 hy with hy | hy
        · exact hy.symm
        · have k1 := h2.1 x hx
          have k2 := h1.1 y hy
          rw [(ordF_cases _ _).1] at k1 k2
          omega
    subst e
    rw [List.pairwise_cons] at h1 h2
    rw [sorted_perm_eq h1.2 h2.2 (List.perm_cons _ |>.1 h)]

/-- Two contacts clash. -/
def cl (x y : Ct) : Bool := decide (x.from_ = y.from_) && decide (x.to = y.to) && Clk.bothB x.a x.b y.a y.b
theorem clashB_eq (L : List Ct) (c : Ct) : clashB L c = L.any fun x => cl x c := rfl
theorem cl_iff {x y : Ct} (hx : okB x = true) (hy : okB y = true) : cl x y = true ↔ x.from_ = y.from_ ∧ x.to = y.to ∧ x.a < y.b ∧ y.a < x.b := by
  obtain ⟨r1, l1⟩ := okB_span hx
  obtain ⟨r2, l2⟩ := okB_span hy
  unfold cl Clk.bothB
  rw [r1, r2]
  simp only [Bool.true_and, Bool.and_eq_true, decide_eq_true_eq]
  unfold Clk.maxI Clk.minI
  constructor
  · rintro ⟨⟨h1, h2⟩, h3⟩
    refine ⟨h1, h2, ?_⟩
    split at h3 <;> split at h3 <;> omega
  · rintro ⟨h1, h2, h3, h4⟩
    refine ⟨⟨h1, h2⟩, ?_⟩
    split <;> split <;> omega
theorem cl_symm {x y : Ct} (hx : okB x = true) (hy : okB y = true) (h : cl x y = true) : cl y x = true := by
  rw [cl_iff hx hy] at h
  rw [cl_iff hy hx]
  omega
/-- Contacts that were added, one behind the other, and the plan. -/
structure Acc (T L : List Ct) : Prop where
  inv : PInv L
  perm : L.Perm T
  apart : T.Pairwise fun x y => cl x y = false
theorem Acc.nil : Acc [] [] := ⟨PInv.nil, List.Perm.refl _, List.Pairwise.nil⟩
theorem Acc.ok {T L : List Ct} (h : Acc T L) : ∀ x ∈ T, okB x = true := fun x hx => h.inv.ok x (h.perm.mem_iff.2 hx)
theorem addF_zero {L : List Ct} {c : Ct} (h : (addF L c).1 = 0) : okB c = true ∧ clashB L c = false ∧ (addF L c).2 = insF L c := by
  unfold addF at *
  split at h
  · split at h
    · simp at h
    · split at h
      · simp at h
      · rename_i h1 h2 h3
        refine ⟨h1, by simpa using h2, ?_⟩
        rw [if_pos h1, if_neg h2, if_neg h3]
  · simp at h
theorem addF_not {L : List Ct} {c : Ct} (h : ¬ (addF L c).1 = 0) : (addF L c).2 = L := by
  unfold addF at *
  split
  · rename_i h1
    split
    · rfl
    · rename_i h2
      split
      · rfl
      · rename_i h3
        rw [if_pos h1, if_neg h2, if_neg h3] at h
        simp at h
  · rfl
theorem Acc.add {T L : List Ct} (h : Acc T L) {c : Ct} (h0 : (addF L c).1 = 0) : Acc (T ++ [c]) (addF L c).2 := by
  obtain ⟨h1, h2, h3⟩ := addF_zero h0
  rw [h3]
  refine ⟨h.inv.ins h1 h2, (insF_perm L c).trans ((List.Perm.cons c h.perm).trans (List.perm_append_singleton c T).symm), ?_⟩
  rw [List.pairwise_append]
  refine ⟨h.apart, List.pairwise_singleton _ _, fun a ha b hb => ?_⟩
  rw [List.mem_singleton.1 hb]
  have := List.any_eq_false.1 h2 a (h.perm.mem_iff.2 ha)
  simpa [cl, btwB] using this
/-- They are added from behind. -/
theorem Acc.back {T L M : List Ct} (h : Acc T L) (hT : T.length < 256) {k : Nat} (hk : k < T.length) (hM : PInv M) (hp : M.Perm (T.drop (k + 1))) :
    addF M T[k] = (0, insF M T[k]) ∧ PInv (insF M T[k]) ∧ (insF M T[k]).Perm (T.drop k) := by
  have hok := h.ok T[k] (List.getElem_mem hk)
  have hno : clashB M T[k] = false := by
    rw [clashB_eq, List.any_eq_false]
    intro x hx
    have hx2 := hp.mem_iff.1 hx
    obtain ⟨j, hj, rfl⟩ := List.mem_iff_getElem.1 hx2
    rw [List.length_drop] at hj
    rw [List.getElem_drop]
    have := List.pairwise_iff_getElem.1 h.apart k (k + 1 + j) hk (by omega) (by omega)
    intro e
    have := cl_symm (h.ok _ (List.getElem_mem _)) hok e
    simp_all
  have hlen : M.length < 256 := by rw [hp.length_eq, List.length_drop]; omega
  refine ⟨?_, hM.ins hok hno, ?_⟩
  · unfold addF
    rw [if_pos hok, hno, if_neg (by simp), if_neg (by omega)]
  · rw [List.drop_eq_getElem_cons hk]
    exact (insF_perm M _).trans (List.Perm.cons _ hp)
theorem Acc.same {T L M : List Ct} (h : Acc T L) (hM : PInv M) (hp : M.Perm T) : L = M := sorted_perm_eq h.inv.ord hM.ord (h.perm.trans hp.symm)
theorem inB_iff {a b t : Int} (h : Clk.rightB a b = true) : Clk.inB a b t = true ↔ a ≤ t ∧ t < b := by
  unfold Clk.inB
  rw [h]
  simp
/-- What was added just now is found, and let go. -/
theorem drop_back {L : List Ct} {c : Ct} (hL : PInv L) (h0 : (addF L c).1 = 0) : atR (addF L c).2 c.from_ c.to c.a = some c ∧ dropF (addF L c).2 c.from_ c.to c.a = L := by
  obtain ⟨h1, h2, h3⟩ := addF_zero h0
  rw [h3]
  obtain ⟨r, l⟩ := okB_span h1
  have hno : ∀ x ∈ L, btwB c.from_ c.to (fun x y => Clk.inB x y c.a) x = false := fun x hx => by
    have hc := List.any_eq_false.1 h2 x hx
    have hxo := hL.ok x hx
    obtain ⟨r2, l2⟩ := okB_span hxo
    cases hb : btwB c.from_ c.to (fun x y => Clk.inB x y c.a) x with
    | false => rfl
    | true =>
      exfalso
      apply hc
      have : cl x c = true := by
        unfold btwB at hb
        simp only [Bool.and_eq_true, decide_eq_true_eq] at hb
        rw [inB_iff r2] at hb
        rw [cl_iff hxo h1]
        omega
      exact this
  have hself : btwB c.from_ c.to (fun x y => Clk.inB x y c.a) c = true := by
    unfold btwB
    simp only [decide_true, Bool.true_and]
    rw [inB_iff r]; omega
  have hple := posF_le L c
  have hfi : (insF L c).findIdx? (btwB c.from_ c.to fun x y => Clk.inB x y c.a) = some (posF L c) := by
    rw [List.findIdx?_eq_some_iff_getElem]
    have hlen : posF L c < (insF L c).length := by rw [(insF_perm L c).length_eq, List.length_cons]; omega
    have hget? : (insF L c)[posF L c]? = some c := by
      unfold insF
      rw [List.getElem?_append_right (by rw [List.length_take]; omega), List.length_take, Nat.min_eq_left hple, Nat.sub_self]; rfl
    have hget : (insF L c)[posF L c]'hlen = c := by
      have := List.getElem?_eq_getElem hlen
      rw [hget?] at this
      exact (Option.some.inj this).symm
    refine ⟨hlen, by rw [hget]; exact hself, fun j hj => ?_⟩
    have : (insF L c)[j]'(by omega) ∈ L := by
      have e : (insF L c)[j]'(by omega) = (L.take (posF L c))[j]'(by rw [List.length_take]; omega) := by
        unfold insF
        rw [List.getElem_append_left]
      rw [e]
      exact (List.take_sublist _ _).subset (List.getElem_mem _)
    rw [hno _ this]
    simp
  constructor
  · unfold atR
    rw [List.find?_eq_some_iff_append]
    refine ⟨hself, L.take (posF L c), L.drop (posF L c), rfl, fun a ha => ?_⟩
    rw [hno a ((List.take_sublist _ _).subset ha)]; rfl
  · unfold dropF
    rw [hfi]
    unfold insF
    simp only
    rw [List.take_append_of_le_length (by rw [List.length_take]; omega), List.take_take, Nat.min_self]
    have : (L.take (posF L c) ++ c :: L.drop (posF L c)).drop (posF L c + 1) = L.drop (posF L c) := by
      rw [List.drop_append, List.drop_of_length_le (by rw [List.length_take]; omega), List.length_take, Nat.min_eq_left hple]
      simp
    rw [this, List.take_append_drop]

/-- The law's own question. -/
def qB (y : Ct) (t : Int) (x : Ct) : Bool := decide (x.from_ = y.from_) && decide (x.to = y.to) && decide (x.a ≤ t) && decide (t < x.b)
theorem Acc.one {T L : List Ct} (h : Acc T L) (y : Ct) (t : Int) : (T.filter (qB y t)).length ≤ 1 := by
  have hp : (T.filter (qB y t)).Pairwise fun x y => cl x y = false := h.apart.sublist List.filter_sublist
  have hm : ∀ x ∈ T.filter (qB y t), okB x = true ∧ qB y t x = true := fun x hx => by
    obtain ⟨h1, h2⟩ := List.mem_filter.1 hx
    exact ⟨h.ok x h1, h2⟩
  match hF : T.filter (qB y t) with
  | [] => simp
  | [_] => simp
  | x :: z :: r =>
    exfalso
    rw [hF] at hp hm
    obtain ⟨o1, q1⟩ := hm x (by simp)
    obtain ⟨o2, q2⟩ := hm z (by simp)
    have hc := (List.pairwise_cons.1 hp).1 z (by simp)
    unfold qB at q1 q2
    simp only [Bool.and_eq_true, decide_eq_true_eq] at q1 q2
    have := (cl_iff o1 o2).2 (by omega)
    rw [this] at hc
    cases hc
theorem Acc.at_ {T L : List Ct} (h : Acc T L) (y : Ct) (t : Int) : (atR L y.from_ y.to t).isSome = decide ((T.filter (qB y t)).length = 1) := by
  have h1 := h.one y t
  have hq : ∀ x ∈ L, btwB y.from_ y.to (fun a b => Clk.inB a b t) x = qB y t x := fun x hx => by
    obtain ⟨r, _⟩ := okB_span (h.inv.ok x hx)
    unfold btwB qB
    have := inB_iff (t := t) r
    cases hb : Clk.inB x.a x.b t with
    | true => have := this.1 hb; simp [hb, this]
    | false =>
      have hn : ¬ (x.a ≤ t ∧ t < x.b) := fun e => by have := this.2 e; rw [hb] at this; cases this
      by_cases k1 : x.a ≤ t
      · have k2 : ¬ t < x.b := fun e => hn ⟨k1, e⟩
        simp [hb, k2]
      · simp [hb, k1]
  cases hs : atR L y.from_ y.to t with
  | some c =>
    have hc := List.find?_some hs
    have hm := List.mem_of_find?_eq_some hs
    rw [hq c hm] at hc
    have : c ∈ T.filter (qB y t) := List.mem_filter.2 ⟨h.perm.mem_iff.1 hm, hc⟩
    have hpos := List.length_pos_of_mem this
    symm
    exact decide_eq_true (by omega)
  | none =>
    symm
    refine decide_eq_false fun e => ?_
    obtain ⟨c, hc⟩ := List.exists_mem_of_length_pos (show 0 < (T.filter (qB y t)).length by omega)
    obtain ⟨k1, k2⟩ := List.mem_filter.1 hc
    have hm := h.perm.mem_iff.2 k1
    have := List.find?_eq_none.1 hs c hm
    rw [hq c hm] at this
    exact this k2
theorem filter_succ {α : Type} (q : α → Bool) {T : List α} {k : Nat} (hk : k < T.length) : ((T.take (k + 1)).filter q).length = ((T.take k).filter q).length + if q T[k] then 1 else 0 := by
  rw [List.take_succ_eq_append_getElem hk, List.filter_append, List.length_append]
  cases h : q T[k] <;> simp [h]
end Vol

/-- Contacts, out of their cells. -/
theorem cts_of {H : Type} {enc : TypeId × Value → H} {w : World} {base : Nat} {spare : Nat → Bool} {held : Bool} {v : Value} {n : Nat} {vs : List Value} (hsl : Sl w 5 v n vs)
    (hl : ∀ i, i < n → ∀ (j : Nat) (U : TypeId), [22, 22, 23, 23, 23][j]? = some U → ∃ c, vs[i * 5 + j]? = some c ∧ Leaf enc Try.prog w base spare held U c) : ∃ l : List Ct, vs = l.flatMap ctC ∧ ∀ x ∈ l, x.Wf := by
  refine recs_of (cells := ctC) (good := Ct.Wf) (sz := 5) (fun _ => rfl) n vs hsl.1 fun i hi => ?_
  obtain ⟨c0, e0, L0⟩ := hl i hi 0 _ rfl
  obtain ⟨c1, e1, L1⟩ := hl i hi 1 _ rfl
  obtain ⟨c2, e2, L2⟩ := hl i hi 2 _ rfl
  obtain ⟨c3, e3, L3⟩ := hl i hi 3 _ rfl
  obtain ⟨c4, e4, L4⟩ := hl i hi 4 _ rfl
  obtain ⟨m0, rfl, w0⟩ := Leaf.int Try.underlying22 L0
  obtain ⟨m1, rfl, w1⟩ := Leaf.int Try.underlying22 L1
  obtain ⟨m2, rfl, w2⟩ := Leaf.int Try.underlying23 L2
  obtain ⟨m3, rfl, w3⟩ := Leaf.int Try.underlying23 L3
  obtain ⟨m4, rfl, w4⟩ := Leaf.int Try.underlying23 L4
  simp [Lit.wf, IntKind.min, IntKind.max, IntKind.signed, IntKind.bits] at w0 w1 w2 w3 w4
  refine ⟨⟨m0, m1, m2, m3, m4⟩, ⟨by show 0 ≤ m0; omega, by show m0 ≤ _; omega, by show 0 ≤ m1; omega, by show m1 ≤ _; omega, by show 0 ≤ m2; omega, by show 0 ≤ m3; omega, by show 0 ≤ m4; omega⟩, fun j hj => ?_⟩
  match j with
  | 0 => exact e0
  | 1 => exact e1
  | 2 => exact e2
  | 3 => exact e3
  | 4 => exact e4
  | j + 5 => omega
end Go.Proofs.Ytgbpdchdcbnoaaa
