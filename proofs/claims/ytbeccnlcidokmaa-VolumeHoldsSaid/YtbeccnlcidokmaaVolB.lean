/-
  A ledger as the list of its rows; contracts of none, booked, Booked, New, Len.
-/
import Derived.Test.YtbeccnlcidokmaaVolA
import Derived.Test.YtbeccnlcidokmaaMapB
namespace Go.Proofs.Ytbeccnlcidokmaa
open Go.RowKit Go.Maps Vol
set_option linter.unusedSimpArgs false
set_option linter.unusedVariables false

theorem laidOutV : laidOutB Try.prog = true := by kernel_rfl
theorem volKeyed : Keyed Try.prog 55 :=
  Keyed.of_law (deep_law_laid laidOutV (m := 4) (by omega) (of_decide_eq_true (by kernel_rfl)) (by kernel_rfl) (by rw [Try.underlying55]))

theorem ct_key (c : Ct) (h : c.Ok) : ∃ l, keyOf Try.prog 55 (keyV c) = some l := by
  obtain ⟨f1, f2, t1, t2, ne, a0, ab, b2, r1, r2⟩ := h
  have h1 : (Lit.int .u32 c.from_).wf = true := by simp [Lit.wf, IntKind.min, IntKind.max, IntKind.signed, IntKind.bits]; omega
  have h2 : (Lit.int .u32 c.to).wf = true := by simp [Lit.wf, IntKind.min, IntKind.max, IntKind.signed, IntKind.bits]; omega
  have h3 : (Lit.int .u64 c.a).wf = true := by simp [Lit.wf, IntKind.min, IntKind.max, IntKind.signed, IntKind.bits]; omega
  unfold keyOf
  rw [Try.underlying55]
  have hk : Try.prog.keyType 55 = true := by kernel_rfl
  have hf : (keyV c).formed Try.prog 55 = true := by
    unfold Value.formed
    rw [Try.underlying55]
    have hc : Try.prog.cellsOf 55 = 3 := by kernel_rfl
    rw [hc]
    rfl
  rw [hk, hf]
  simp only [Bool.and_true, if_true]
  obtain ⟨d, hd⟩ : ∃ d, Try.prog.types.size + 1 = d + 3 := ⟨Try.prog.types.size - 2, by have : 2 ≤ Try.prog.types.size := of_decide_eq_true (by kernel_rfl); omega⟩
  rw [hd]
  have c0 : Try.prog.cellsOf 55 = 3 := by kernel_rfl
  have c2 : Try.prog.cellsOf 28 = 1 := by kernel_rfl
  have c3 : Try.prog.cellsOf 27 = 1 := by kernel_rfl
  have hkl : Try.prog.keyLits (d + 3) 55 (keyV c).cells.toList = some [.int .u32 c.from_, .int .u32 c.to, .int .u64 c.a] := by
    simp [Program.keyLits, Value.cells, Try.underlying55, Try.underlying28, Try.underlying27, c0, c2, c3, h1, h2, h3]
  rw [hkl]
  exact ⟨_, rfl⟩

namespace Vol
def keyEq (x y : Ct) : Bool := decide (x.from_ = y.from_) && decide (x.to = y.to) && decide (x.a = y.a)
def zct : Ct := ⟨0, 0, 0, 0, 0⟩
/-- The row of a contact's key. -/
def get (E : List (Ct × Int)) (c : Ct) : Option (Ct × Int) := E.find? fun p => keyEq p.1 c
def lk (E : List (Ct × Int)) (c : Ct) : Ct × Int := (get E c).getD (zct, 0)
theorem keyV_eq {x y : Ct} : keyV x = keyV y ↔ keyEq x y = true := by
  simp [keyV, keyEq, and_assoc]
end Vol
abbrev vEnt (p : Ct × Int) : Value × Value := (keyV p.1, rowV p.1 p.2)
abbrev VMap (w : World) (M : Nat) (E : List (Ct × Int)) : Prop := MapAt Try.prog 55 w M (E.map vEnt)

theorem vlook {w : World} {M : Nat} {E : List (Ct × Int)} (h : VMap w M E) {c : Ct} (hc : c.Ok) (b : Bool) :
    (Instr.lookup 45 (.map (some M)) (keyV c) b).run Try.prog w = .ok (if b then .tuple #[rowV (lk E c).1 (lk E c).2, .bool (get E c).isSome] else rowV (lk E c).1 (lk E c).2) w := by
  obtain ⟨l, hl⟩ := ct_key c hc
  cases hg : get E c with
  | none =>
    have hz : Try.t52.zero = some (rowV zct 0) := by kernel_rfl
    have h1 : lk E c = (zct, 0) := by unfold lk; rw [hg]; rfl
    rw [h1]
    refine h.look_none volKeyed Try.underlying45 (z := rowV zct 0) (by simp [go_sem, zeroValue, hz]) hl (fun p hp e => ?_) b
    obtain ⟨q, hq, rfl⟩ := List.mem_map.1 hp
    have := List.find?_eq_none.1 hg q hq
    exact this (keyV_eq.1 e)
  | some q =>
    have h1 : lk E c = q := by unfold lk; rw [hg]; rfl
    rw [h1]
    have hg' : E.find? (fun p => keyEq p.1 c) = some q := hg
    have hq := List.mem_of_find?_eq_some hg'
    have hk1 : keyEq q.1 c = true := List.find?_some (p := fun p : Ct × Int => keyEq p.1 c) hg'
    have hk := keyV_eq.2 hk1
    exact h.look_some volKeyed Try.underlying45 hl (List.mem_map.2 ⟨q, hq, by show (keyV q.1, rowV q.1 q.2) = _; rw [hk]⟩) b

/-- A ledger: its variable lies in block L, its map in block M. -/
structure Led (w : World) (L M : Nat) (E : List (Ct × Int)) : Prop where
  var : RowAt w L #[.map (some M)] 47
  map : VMap w M E
  ne : L ≠ M
theorem Led.but {w w' : World} {L M : Nat} {E : List (Ct × Int)} (h : Led w L M E) {O : Nat → Prop} (hb : But O w w') (hL : ¬ O L) (hM : ¬ O M) : Led w' L M E :=
  ⟨(hb.same L h.var.lt hL).trans h.var, h.map.heap (hb.same M h.map.lt hM), h.ne⟩
theorem Led.below {w w' : World} {L M : Nat} {E : List (Ct × Int)} (h : Led w L M E) (hb : Below w.heap.size w w') : Led w' L M E :=
  h.but (O := fun _ => False) (But.of_below hb) (fun h => h) (fun h => h)

set_option maxRecDepth 100000 in
theorem vNone_c {L M : Nat} {E : List (Ct × Int)} (w : World) (h : Led w L M E) : Calls Try.prog 22 #[.pointer (some ⟨L, 0, none⟩)] w (Ret (.bool false) w) := by
  have hc := h.var.cell (i := 0) rfl
  have hm := fun w => run_eql_map_nil (P := Try.prog) w 45 _ _ (some M) Try.underlying45
  go_enter Try.func22, Try.ntmps22
  go_wp2
  go_ret
  exact ⟨rfl, Below.refl _ _⟩

theorem row_field (c : Ct) (n : Int) (w : World) : (Instr.field 52 (rowV c n) 1).run Try.prog w = .ok (.int .u64 n) w := by
  first | kernel_rfl | (simp [Instr.field, go_sem]) | (unfold Instr.field; simp)

set_option maxRecDepth 100000 in
theorem vBooked_c {M : Nat} {E : List (Ct × Int)} (c : Ct) (hc : c.Ok) (w : World) (h : VMap w M E) : Calls Try.prog 21 #[.map (some M), ctV c] w (Ret (.int .u64 (lk E c).2) w) := by
  have hB := below_alloc w (.cells (ctC c).toArray 32)
  have hM := h.lt
  have hfd := row_field
  go_enter Try.func21, Try.ntmps21
  go_wp2_with (first
    | (go_at_call 20; refine (ctOf_c c _).mono ?_; rintro en w1 ⟨rfl, hb⟩; have hl := vlook (h.heap ((below_up hB hb).block M hM)) hc false; simp only [Bool.false_eq_true, if_false] at hl)
    | (refine wpList_look rfl 45 (.tmp 5) (.tmp 7) false rfl (mv := .map (some M)) (iv := keyV c) rfl rfl hl ?_))
  go_ret
  exact ⟨rfl, below_up hB hb⟩

set_option maxRecDepth 100000 in
theorem vBookedL_c {L M : Nat} {E : List (Ct × Int)} (c : Ct) (hc : c.Ok) (w : World) (h : Led w L M E) : Calls Try.prog 15 #[.pointer (some ⟨L, 0, none⟩), ctV c] w (Ret (.int .u64 (lk E c).2) w) := by
  have hB := below_alloc w (.cells (ctC c).toArray 32)
  have C1 := RowAt.new w (ctC c).toArray 32
  have h0 := h.below hB
  go_enter Try.func15, Try.ntmps15
  go_wp2_with (first
    | (go_at_call 22; refine (vNone_c _ h0).mono ?_; rintro en w1 ⟨rfl, hb1⟩; have h1 := h0.below hb1; have C2 := C1.below hb1; have g := fun (j : Nat) (u : Value) (h : (ctC c).toArray[j]? = some u) => C2.cell h; have g0 := g 0 _ rfl; have g1 := g 1 _ rfl; have g2 := g 2 _ rfl; have g3 := g 3 _ rfl; have g4 := g 4 _ rfl; clear g)
    | (go_at_call 27; refine (ctRight_c c hc _).mono ?_; rintro en w2 ⟨rfl, hb2⟩; have h2 := h1.below hb2; have C3 := C2.below hb2))
  refine wp_region_pi [(0, false), (1, false), (2, false), (3, false), (4, false), (5, true), (6, false)] (by kernel_rfl) (by kernel_rfl) (by kernel_rfl) rfl (fun _ _ d _ _ h => by cases d <;> exact h) (fun Wd hBd => ?_)
  try simp only [Act.put, List.getElem_toArray, List.getElem_cons_zero, List.getElem_cons_succ, List.setIfInBounds_toArray, List.set_cons_zero, List.set_cons_succ]
  have h3 := h2.below hBd
  have C4 := C3.below hBd
  have hcL : ∀ w', Below Wd.heap.size Wd w' → w'.cell? ⟨L, 0, none⟩ = some (.map (some M)) := fun w' h => cell_up h (h3.var.cell (i := 0) rfl)
  refine pi_q (v := ?_) rfl (by rfl) ?_ ?_
  rotate_left
  · intro w' hBw'
    first | (go_simp; done) | (go_simp; with_reducible rfl)
  try simp only [Act.put, List.getElem_toArray, List.getElem_cons_zero, List.getElem_cons_succ, List.setIfInBounds_toArray, List.set_cons_zero, List.set_cons_succ]
  refine pi_q (v := ?_) rfl (by rfl) ?_ ?_
  rotate_left
  · intro w' hBw'
    first | (go_simp; done) | (go_simp; with_reducible rfl)
  try simp only [Act.put, List.getElem_toArray, List.getElem_cons_zero, List.getElem_cons_succ, List.setIfInBounds_toArray, List.set_cons_zero, List.set_cons_succ]
  refine pi_q (v := ?_) rfl (by rfl) ?_ ?_
  rotate_left
  · intro w' hBw'
    first | (go_simp; done) | (go_simp; with_reducible rfl)
  try simp only [Act.put, List.getElem_toArray, List.getElem_cons_zero, List.getElem_cons_succ, List.setIfInBounds_toArray, List.set_cons_zero, List.set_cons_succ]
  refine pi_q (v := ?_) rfl (by rfl) ?_ ?_
  rotate_left
  · intro w' hBw'
    first | (go_simp; done) | (go_simp; with_reducible rfl)
  try simp only [Act.put, List.getElem_toArray, List.getElem_cons_zero, List.getElem_cons_succ, List.setIfInBounds_toArray, List.set_cons_zero, List.set_cons_succ]
  refine pi_load rfl (by rfl) 32 (.tmp 3) rfl w.heap.size 0 rfl (ctC c) _ C4.range Try.underlying32 rfl (by kernel_rfl) ?_
  try simp only [Act.put, List.getElem_toArray, List.getElem_cons_zero, List.getElem_cons_succ, List.setIfInBounds_toArray, List.set_cons_zero, List.set_cons_succ]
  refine pi_c rfl (by rfl) (fun K hK => ?_)
  go_simp
  refine (vBooked_c c hc _ h3.map).mono ?_
  rintro en w4 ⟨rfl, hb4⟩
  go_wp2_with fail
  refine hK.out _ _ hb4 ?_
  clear hK K
  try simp only [Act.put, List.getElem_toArray, List.getElem_cons_zero, List.getElem_cons_succ, List.setIfInBounds_toArray, List.set_cons_zero, List.set_cons_succ]
  refine pi_q (v := ?_) rfl (by rfl) ?_ ?_
  rotate_left
  · intro w' hBw'
    first | (go_simp; done) | (go_simp; with_reducible rfl)
  try simp only [Act.put, List.getElem_toArray, List.getElem_cons_zero, List.getElem_cons_succ, List.setIfInBounds_toArray, List.set_cons_zero, List.set_cons_succ]
  refine pi_nil ?_
  go_wp2
  go_ret
  exact ⟨rfl, below_up (below_up (below_up (below_up hB hb1) hb2) hBd) hb4⟩

set_option maxRecDepth 100000 in
theorem vNew_c (w : World) : Calls Try.prog 6 #[] w fun en w' => en = .returned (.pointer (some ⟨w.heap.size + 1, 0, none⟩)) ∧ Led w' (w.heap.size + 1) w.heap.size [] ∧ Below w.heap.size w w' := by
  have hmk := run_makeMap (P := Try.prog) 45 w
  go_enter Try.func6, Try.ntmps6
  go_wp2
  go_ret
  refine ⟨by simp, ⟨?_, ?_, by omega⟩, (below_alloc w _).alloc (by simp) _⟩
  · have := RowAt.new (w.alloc (.map #[] 0)) #[.map (some w.heap.size)] 47
    rwa [show (w.alloc (.map #[] 0)).heap.size = w.heap.size + 1 by simp] at this
  · exact (MapAt.new w).heap (heap_alloc_old _ _ (MapAt.new (P := Try.prog) (k := 55) w).lt)

set_option maxRecDepth 100000 in
theorem vLen_c {L M : Nat} {E : List (Ct × Int)} (w : World) (h : Led w L M E) : Calls Try.prog 9 #[.pointer (some ⟨L, 0, none⟩)] w (Ret (.int .i64 E.length) w) := by
  go_enter Try.func9, Try.ntmps9
  go_wp2_with (go_at_call 22; refine (vNone_c _ h).mono ?_; rintro en w1 ⟨rfl, hb⟩; have h1 := h.below hb; have hc := h1.var.cell (i := 0) rfl; have hlen := h1.map.len Try.underlying45 3; rw [List.length_map] at hlen)
  go_ret
  exact ⟨rfl, hb⟩
end Go.Proofs.Ytbeccnlcidokmaa
