/-
  The contract of sum.Open.
-/
import Derived.Test.YtinohligpncpiaaSumD
import Derived.Test.YtinohligpncpiaaPi
namespace Go.Proofs.Ytinohligpncpiaa
open Go.RowKit
set_option linter.unusedSimpArgs false
set_option linter.unusedVariables false

namespace Sum
def cutB (k : Nat) (l : List UInt8) : List UInt8 := l.take (l.length - wd k)
def openB (k : Nat) (l : List UInt8) : Bool := decide (wd k ≤ l.length) && decide (sealB k (cutB k l) = l)
end Sum
/-- What Open answers. -/
def OpenPost (k : Nat) (l : List UInt8) (w : World) (e : Ending) (w' : World) : Prop :=
  Below w.heap.size w w' ∧ ((Sum.openB k l = true ∧ ∃ v', e = .returned (.tuple #[v', .int .i64 0]) ∧ Sl w' 1 v' (Sum.cutB k l).length (by8 (Sum.cutB k l)) ∧ ((Sum.cutB k l).length = 0 ∨ ∀ g, v'.ownBlock = some g → w.heap.size ≤ g)) ∨
    (Sum.openB k l = false ∧ e = .returned (.tuple #[.slice none 0 0, .int .i64 110])))

namespace Oct
theorem one_ok {l : List UInt8} {x : Int} (h : 0 ≤ x) (h' : x ≤ l.length) : okAll l [x] = true := by simp [okAll, okAt, fr, List.range, List.range.loop]; omega
theorem one_no {l : List UInt8} {x : Int} (h : x < 0) : okAll l [x] = false := by simp [okAll, okAt, fr, List.range, List.range.loop]; omega
theorem one_split {l : List UInt8} {x : Int} (h : okAll l [x] = true) : splitL l [x] = [l.take x.toNat, l.drop x.toNat] := by
  rw [splitL_yes h]
  simp [pieces, piece, fr, List.range, List.range.loop]
end Oct

theorem SlB.at_v {w : World} {a : Option Addr} {n c : Nat} {vs : List Value} {ls : List (List UInt8)} (h : SlB w (.slice a n c) n vs ls) {k : Nat} (hk : k < n) (hk' : k < ls.length) :
    ∃ b off a' c', a = some ⟨b, off, none⟩ ∧ vs[k]? = some (.slice a' ls[k].length c') ∧ w.cell? ⟨b, off + k, none⟩ = some (.slice a' ls[k].length c') ∧ Sl w 1 (.slice a' ls[k].length c') ls[k].length (by8 ls[k]) := by
  have hl := h.len
  have hv : k < vs.length := by omega
  obtain ⟨b, off, ha, hc⟩ := h.out.cellAt (k := k) (by omega) (by omega)
  have hs := h.each k vs[k] ls[k] (List.getElem?_eq_getElem hv) (List.getElem?_eq_getElem hk')
  obtain ⟨a', c', e⟩ := hs.len
  rw [List.getElem?_eq_getElem hv, e] at hc
  rw [e] at hs
  exact ⟨b, off, a', c', ha, by rw [List.getElem?_eq_getElem hv, e], hc, hs⟩
/-- A piece lies in a new row. -/
theorem split_far {base : Nat} {w : World} {own v : Value} {n N : Nat} {vs : List Value} {l : List UInt8} {ls : List (List UInt8)} (h : Split base w own v n N vs l ls) {i : Nat} {u : Value} {l' : List UInt8} (h1 : vs[i]? = some u) (h2 : ls[i]? = some l') :
    l'.length = 0 ∨ ∀ g, u.ownBlock = some g → base ≤ g := by
  obtain ⟨_, a', rfl, h0 | ⟨g, lo, cap, ho, rfl, hle⟩⟩ := h.each i u l' h1 h2
  · exact .inl h0
  · refine .inr fun k hk => ?_
    have := (own_of_some h.own_ (k := g) (by rw [ho]; rfl)).1
    simp only [Value.ownBlock, Option.some.injEq] at hk
    omega

theorem slI1 (w : World) (x : Int) (T : TypeId) (k : Nat) (hk : k = w.heap.size) : Sl (w.alloc (.cells #[.int .i64 x] T)) 1 (.slice (some ⟨k, 0, none⟩) 1 1) 1 ([x].map (.int .i64)) := sl1 w k hk _ T

theorem open_bad (k : Int) (hk : k < 0 ∨ 2 < k) (a : Option Addr) (c n : Nat) (w : World) :
    Calls Try.prog 14 #[.int .i64 k, .slice a n c] w (Ret (.tuple #[.slice none 0 0, .int .i64 2]) w) := by
  go_enter Try.func14, Try.ntmps14
  go_wp2_with (go_at_call 8; refine (width_bad k hk _).mono ?_; rintro e w1 ⟨rfl, hb⟩)
  go_ret2
  exact ⟨rfl, hb⟩

set_option maxHeartbeats 1000000 in
theorem open_short (k : Nat) (hk : k ≤ 2) (l : List UInt8) (a : Option Addr) (c n : Nat) (w : World) (hv : Sl w 1 (.slice a n c) n (by8 l)) (hn : n ≤ 140737488351240) (hs : n < Sum.wd k) :
    Calls Try.prog 14 #[.int .i64 k, .slice a n c] w (OpenPost k l w) := by
  have hln := hv.n_len
  have hw4 : Sum.wd k ≤ 4 := by unfold Sum.wd; split <;> decide
  have hob : Sum.openB k l = false := by unfold Sum.openB; rw [Bool.and_eq_false_iff]; left; simp; omega
  have Hob := Lib.hid hob
  clear hob
  go_enter Try.func14, Try.ntmps14
  go_wp2_with (go_at_call 8; refine (width_c k hk _).mono ?_; rintro e w1 ⟨rfl, hb⟩)
  refine (split_c l [(n : Int) - (Sum.wd k : Int)] _ _ n 1 _ ((hv.up hb).up (below_alloc _ _)) (slI1 _ _ _ _ rfl) (by omega) (by decide)).mono ?_
  rintro e w2 ⟨hb2, h⟩
  rcases h with ⟨hok, _⟩ | ⟨_, rfl⟩
  · rw [Oct.one_no (by omega)] at hok; cases hok
  have hB2 := below_up hb (below_new hb2)
  go_wp2
  refine wp_region_pi [(0, false), (1, false), (2, false), (3, false), (4, false), (5, false), (6, false), (7, false), (8, false), (9, false), (10, false), (11, false), (12, false), (13, false), (14, false)] (by kernel_rfl) (by kernel_rfl) (by kernel_rfl) rfl (fun _ _ d _ _ h => by cases d <;> exact h) (fun Wd hBd => ?_)
  try simp only [Act.put, List.getElem_toArray, List.getElem_cons_zero, List.getElem_cons_succ, List.setIfInBounds_toArray, List.set_cons_zero, List.set_cons_succ]
  refine pi_q (v := ?_) rfl (by rfl) ?_ ?_
  rotate_left
  · intro w' hBw'
    first | (go_simp; done) | (go_simp; with_reducible rfl)
  try simp only [Act.put, List.getElem_toArray, List.getElem_cons_zero, List.getElem_cons_succ, List.setIfInBounds_toArray, List.set_cons_zero, List.set_cons_succ]
  refine pi_q (v := ?_) rfl (by rfl) ?_ ?_
  rotate_left
  · intro w' hBw'
    first | (go_simp; done) | (go_simp; with_reducible rfl)
  try simp only [Act.put, List.getElem_toArray, List.getElem_cons_zero, List.getElem_cons_succ, List.setIfInBounds_toArray, List.set_cons_zero, List.set_cons_succ]
  refine pi_q (v := ?_) rfl (by rfl) ?_ ?_
  rotate_left
  · intro w' hBw'
    first | (go_simp; done) | (go_simp; with_reducible rfl)
  try simp only [Act.put, List.getElem_toArray, List.getElem_cons_zero, List.getElem_cons_succ, List.setIfInBounds_toArray, List.set_cons_zero, List.set_cons_succ]
  refine pi_no rfl (by rfl) ?_
  try simp only [Act.put, List.getElem_toArray, List.getElem_cons_zero, List.getElem_cons_succ, List.setIfInBounds_toArray, List.set_cons_zero, List.set_cons_succ]
  refine pi_no rfl (by rfl) ?_
  try simp only [Act.put, List.getElem_toArray, List.getElem_cons_zero, List.getElem_cons_succ, List.setIfInBounds_toArray, List.set_cons_zero, List.set_cons_succ]
  refine pi_no rfl (by rfl) ?_
  try simp only [Act.put, List.getElem_toArray, List.getElem_cons_zero, List.getElem_cons_succ, List.setIfInBounds_toArray, List.set_cons_zero, List.set_cons_succ]
  refine pi_no rfl (by rfl) ?_
  try simp only [Act.put, List.getElem_toArray, List.getElem_cons_zero, List.getElem_cons_succ, List.setIfInBounds_toArray, List.set_cons_zero, List.set_cons_succ]
  refine pi_no rfl (by rfl) ?_
  try simp only [Act.put, List.getElem_toArray, List.getElem_cons_zero, List.getElem_cons_succ, List.setIfInBounds_toArray, List.set_cons_zero, List.set_cons_succ]
  refine pi_no rfl (by rfl) ?_
  try simp only [Act.put, List.getElem_toArray, List.getElem_cons_zero, List.getElem_cons_succ, List.setIfInBounds_toArray, List.set_cons_zero, List.set_cons_succ]
  refine pi_no rfl (by rfl) ?_
  try simp only [Act.put, List.getElem_toArray, List.getElem_cons_zero, List.getElem_cons_succ, List.setIfInBounds_toArray, List.set_cons_zero, List.set_cons_succ]
  refine pi_no rfl (by rfl) ?_
  try simp only [Act.put, List.getElem_toArray, List.getElem_cons_zero, List.getElem_cons_succ, List.setIfInBounds_toArray, List.set_cons_zero, List.set_cons_succ]
  refine pi_no rfl (by rfl) ?_
  try simp only [Act.put, List.getElem_toArray, List.getElem_cons_zero, List.getElem_cons_succ, List.setIfInBounds_toArray, List.set_cons_zero, List.set_cons_succ]
  refine pi_no rfl (by rfl) ?_
  try simp only [Act.put, List.getElem_toArray, List.getElem_cons_zero, List.getElem_cons_succ, List.setIfInBounds_toArray, List.set_cons_zero, List.set_cons_succ]
  refine pi_no rfl (by rfl) ?_
  try simp only [Act.put, List.getElem_toArray, List.getElem_cons_zero, List.getElem_cons_succ, List.setIfInBounds_toArray, List.set_cons_zero, List.set_cons_succ]
  refine pi_q (v := ?_) rfl (by rfl) ?_ ?_
  rotate_left
  · intro w' hBw'
    first | (go_simp; done) | (go_simp; with_reducible rfl)
  try simp only [Act.put, List.getElem_toArray, List.getElem_cons_zero, List.getElem_cons_succ, List.setIfInBounds_toArray, List.set_cons_zero, List.set_cons_succ]
  refine pi_nil ?_
  go_wp2
  go_ret2
  exact ⟨below_up hB2 hBd, .inr ⟨Hob.out, rfl⟩⟩

set_option maxHeartbeats 1000000 in
theorem open_c (k : Nat) (hk : k ≤ 2) (l : List UInt8) (a : Option Addr) (c n : Nat) (w : World) (hv : Sl w 1 (.slice a n c) n (by8 l)) (hn : n ≤ 140737488351240) (hs : Sum.wd k ≤ n) :
    Calls Try.prog 14 #[.int .i64 k, .slice a n c] w (OpenPost k l w) := by
  have hln := hv.n_len
  have hok := Oct.one_ok (l := l) (x := (n : Int) - (Sum.wd k : Int)) (by omega) (by omega)
  have hsp := Oct.one_split hok
  have hcut : l.take ((n : Int) - (Sum.wd k : Int)).toNat = Sum.cutB k l := by unfold Sum.cutB; congr 1; omega
  have hcl : (Sum.cutB k l).length ≤ n := by unfold Sum.cutB; rw [List.length_take]; omega
  rw [hcut] at hsp
  have Hln := Lib.hid hln
  have Hok := Lib.hid hok
  have Hsp := Lib.hid hsp
  clear hln hok hsp hcut
  go_enter Try.func14, Try.ntmps14
  go_wp2_with (go_at_call 8; refine (width_c k hk _).mono ?_; rintro e w1 ⟨rfl, hb⟩)
  refine (split_c l [(n : Int) - (Sum.wd k : Int)] _ _ n 1 _ ((hv.up hb).up (below_alloc _ _)) (slI1 _ _ _ _ rfl) (by omega) (by decide)).mono ?_
  rintro e w2 ⟨hb2, h⟩
  rcases h with ⟨_, v8, vs, own8, rfl, hS⟩ | ⟨hno, _⟩
  case inr => rw [Hok.out] at hno; cases hno
  have hsb := hS.slB
  rw [Hsp.out] at hsb
  obtain ⟨l', hl'⟩ : ∃ l', Sum.cutB k l = l' := ⟨_, rfl⟩
  have Hl' := Lib.hid hl'
  rw [hl'] at hsb hcl
  clear hl'
  have hB2 := below_up hb (below_new hb2)
  have hvB := hv.up hB2
  obtain ⟨a8, c8, rfl⟩ := hsb.out.len
  obtain ⟨b8, off8, a0, c0, rfl, hva, hc0, hs0⟩ := hsb.at_v (k := 0) (by simp) (by simp)
  simp only [List.getElem_cons_zero] at hc0 hs0 hva
  have far0 := split_far hS (i := 0) hva (l' := l') (by rw [Hsp.out, Hl'.out]; rfl)
  have far0 := far0.imp_right fun h g hg => Nat.le_trans hb.size (Nat.le_trans (Nat.le_succ _) (by simpa using h g hg))
  have Far := Lib.hid far0
  clear far0 hva
  clear hS hb hb2
  have S0 := Lib.hid (fun w' (h : Below w2.heap.size w2 w') => hs0.up h)
  have hix := kinds_at k hk
  go_wp2
  refine wp_region_pi [(0, false), (1, false), (2, false), (4, false), (6, false), (7, false), (8, false), (11, false), (12, false), (3, true), (5, false), (9, true), (10, false), (13, false), (14, false)] (by kernel_rfl) (by kernel_rfl) (by kernel_rfl) rfl (fun _ _ d _ _ h => by cases d <;> exact h) (fun Wd hBd => ?_)
  try simp only [Act.put, List.getElem_toArray, List.getElem_cons_zero, List.getElem_cons_succ, List.setIfInBounds_toArray, List.set_cons_zero, List.set_cons_succ]
  have c2 : ∀ w', Below Wd.heap.size Wd w' → w'.cell? ⟨b8, off8, none⟩ = some (.slice a0 l'.length c0) := fun w' h => cell_up (below_up hBd h) (by simpa using hc0)
  have t1 : ∀ w', Below Wd.heap.size Wd w' → (convert 23 9 (.slice a n c)).run Try.prog w' = .ok (.string ⟨l.toArray⟩) w' := fun w' h => run_str Try.underlying23 Try.underlying5 Try.underlying9 (hvB.up (below_up hBd h))
  refine pi_q (v := ?_) rfl (by rfl) ?_ ?_
  rotate_left
  · intro w' hBw'
    first | (go_simp; done) | (go_simp; with_reducible rfl)
  try simp only [Act.put, List.getElem_toArray, List.getElem_cons_zero, List.getElem_cons_succ, List.setIfInBounds_toArray, List.set_cons_zero, List.set_cons_succ]
  refine pi_q (v := ?_) rfl (by rfl) ?_ ?_
  rotate_left
  · intro w' hBw'
    first | (go_simp; done) | (go_simp; with_reducible rfl)
  try simp only [Act.put, List.getElem_toArray, List.getElem_cons_zero, List.getElem_cons_succ, List.setIfInBounds_toArray, List.set_cons_zero, List.set_cons_succ]
  refine pi_q (v := ?_) rfl (by rfl) ?_ ?_
  rotate_left
  · intro w' hBw'
    first | (go_simp; done) | (go_simp; with_reducible rfl)
  try simp only [Act.put, List.getElem_toArray, List.getElem_cons_zero, List.getElem_cons_succ, List.setIfInBounds_toArray, List.set_cons_zero, List.set_cons_succ]
  refine pi_q (v := ?_) rfl (by rfl) ?_ ?_
  rotate_left
  · intro w' hBw'
    first | (go_simp; done) | (go_simp; with_reducible rfl)
  try simp only [Act.put, List.getElem_toArray, List.getElem_cons_zero, List.getElem_cons_succ, List.setIfInBounds_toArray, List.set_cons_zero, List.set_cons_succ]
  refine pi_q (v := ?_) rfl (by rfl) ?_ ?_
  rotate_left
  · intro w' hBw'
    first | (go_simp; done) | (go_simp; with_reducible rfl)
  try simp only [Act.put, List.getElem_toArray, List.getElem_cons_zero, List.getElem_cons_succ, List.setIfInBounds_toArray, List.set_cons_zero, List.set_cons_succ]
  refine pi_q (v := ?_) rfl (by rfl) ?_ ?_
  rotate_left
  · intro w' hBw'
    first | (go_simp; done) | (go_simp; with_reducible rfl)
  try simp only [Act.put, List.getElem_toArray, List.getElem_cons_zero, List.getElem_cons_succ, List.setIfInBounds_toArray, List.set_cons_zero, List.set_cons_succ]
  refine pi_q (v := ?_) rfl (by rfl) ?_ ?_
  rotate_left
  · intro w' hBw'
    first | (go_simp; done) | (go_simp; with_reducible rfl)
  try simp only [Act.put, List.getElem_toArray, List.getElem_cons_zero, List.getElem_cons_succ, List.setIfInBounds_toArray, List.set_cons_zero, List.set_cons_succ]
  refine pi_q (v := ?_) rfl (by rfl) ?_ ?_
  rotate_left
  · intro w' hBw'
    first | (go_simp; done) | (go_simp; with_reducible rfl)
  try simp only [Act.put, List.getElem_toArray, List.getElem_cons_zero, List.getElem_cons_succ, List.setIfInBounds_toArray, List.set_cons_zero, List.set_cons_succ]
  refine pi_q (v := ?_) rfl (by rfl) ?_ ?_
  rotate_left
  · intro w' hBw'
    first | (go_simp; done) | (go_simp; with_reducible rfl)
  try simp only [Act.put, List.getElem_toArray, List.getElem_cons_zero, List.getElem_cons_succ, List.setIfInBounds_toArray, List.set_cons_zero, List.set_cons_succ]
  refine pi_c rfl (by rfl) (fun K hK => ?_)
  go_simp
  refine (kinds_c _).mono ?_
  rintro e w3 ⟨rfl, hb3⟩
  have hB3 := below_up hBd hb3
  go_wp2_with fail
  refine hK.out _ _ hb3 ?_
  clear hK K
  try simp only [Act.put, List.getElem_toArray, List.getElem_cons_zero, List.getElem_cons_succ, List.setIfInBounds_toArray, List.set_cons_zero, List.set_cons_succ]
  refine pi_q (v := ?_) rfl (by rfl) ?_ ?_
  rotate_left
  · intro w' hBw'
    first | (go_simp; done) | (go_simp; with_reducible rfl)
  try simp only [Act.put, List.getElem_toArray, List.getElem_cons_zero, List.getElem_cons_succ, List.setIfInBounds_toArray, List.set_cons_zero, List.set_cons_succ]
  refine pi_c rfl (by rfl) (fun K hK => ?_)
  go_simp
  refine (sealed_c k hk l' _ _ _ _ (S0.out _ hB3) (by omega)).mono ?_
  rintro e w4 ⟨v4, rfl, ho4, hb4⟩
  have hB4 := below_up hB3 hb4
  have s4 := Sl.of_own ho4
  obtain ⟨a4, c4, rfl⟩ := own_slice ho4
  have t4 : ∀ w', Below w4.heap.size w4 w' → (convert 23 9 (.slice a4 (Sum.sealB k l').length c4)).run Try.prog w' = .ok (.string ⟨(Sum.sealB k l').toArray⟩) w' := fun w' h => run_str Try.underlying23 Try.underlying5 Try.underlying9 (s4.up h)
  clear ho4
  go_wp2_with fail
  refine hK.out _ _ hb4 ?_
  clear hK K
  try simp only [Act.put, List.getElem_toArray, List.getElem_cons_zero, List.getElem_cons_succ, List.setIfInBounds_toArray, List.set_cons_zero, List.set_cons_succ]
  refine pi_q (v := ?_) rfl (by rfl) ?_ ?_
  rotate_left
  · intro w' hBw'
    first | (go_simp; done) | (go_simp; with_reducible rfl)
  try simp only [Act.put, List.getElem_toArray, List.getElem_cons_zero, List.getElem_cons_succ, List.setIfInBounds_toArray, List.set_cons_zero, List.set_cons_succ]
  refine pi_q (v := ?_) rfl (by rfl) ?_ ?_
  rotate_left
  · intro w' hBw'
    first | (go_simp; done) | (go_simp; with_reducible rfl)
  try simp only [Act.put, List.getElem_toArray, List.getElem_cons_zero, List.getElem_cons_succ, List.setIfInBounds_toArray, List.set_cons_zero, List.set_cons_succ]
  refine pi_q (v := ?_) rfl (by rfl) ?_ ?_
  rotate_left
  · intro w' hBw'
    first | (go_simp; done) | (go_simp; with_reducible rfl)
  try simp only [Act.put, List.getElem_toArray, List.getElem_cons_zero, List.getElem_cons_succ, List.setIfInBounds_toArray, List.set_cons_zero, List.set_cons_succ]
  refine pi_nil ?_
  have hcw := cell_up hB4 hc0
  rw [Nat.add_zero] at hcw
  have hs4 := S0.out _ hB4
  have hBz := below_up hB2 hB4
  have hob : Sum.openB k l = (Sum.sealB k l' == l) := by
    unfold Sum.openB
    rw [Hl'.out, Hln.out, decide_eq_true hs, Bool.true_and, Bool.eq_iff_iff]
    simp
  have Hob := Lib.hid hob
  clear hob
  cases hq : (Sum.sealB k l' == l) with
  | true =>
    go_wp2
    go_ret2
    exact ⟨hBz, .inl ⟨by rw [Hob.out]; exact hq, _, rfl, by rw [Hl'.out]; exact ⟨hs4, Far.out⟩⟩⟩
  | false =>
    go_wp2
    go_ret2
    exact ⟨hBz, .inr ⟨by rw [Hob.out]; exact hq, rfl⟩⟩

theorem open_all (k : Nat) (hk : k ≤ 2) (l : List UInt8) (a : Option Addr) (c n : Nat) (w : World) (hv : Sl w 1 (.slice a n c) n (by8 l)) (hn : n ≤ 140737488351240) :
    Calls Try.prog 14 #[.int .i64 k, .slice a n c] w (OpenPost k l w) := by
  rcases Nat.lt_or_ge n (Sum.wd k) with h | h
  · exact open_short k hk l a c n w hv hn h
  · exact open_c k hk l a c n w hv hn h
end Go.Proofs.Ytinohligpncpiaa
