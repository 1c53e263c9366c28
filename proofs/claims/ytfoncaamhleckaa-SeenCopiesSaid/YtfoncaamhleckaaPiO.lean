/-
  A region that draws its order and holds calls or stores that change blocks of O: one order of one's own choice serves every order, when the quiet operations give their values in every world that differs in blocks of O alone.
-/
import Derived.Test.YtfoncaamhleckaaPi
import Derived.Test.YtfoncaamhleckaaIter
import Derived.Test.YtfoncaamhleckaaRec
namespace Go.Proofs.Ytfoncaamhleckaa
open Go.RowKit

section
variable {P : Program} {md : Region.Mode} {ops : Array Oper} {Q : Exit → Act → World → Prop} {O : Nat → Prop}

def wpPo (P : Program) (O : Nat → Prop) (ops : Array Oper) (Q : Exit → Act → World → Prop) : List (Nat × Bool) → Act → World → Prop
  | [], a, w => Q .normal a w
  | (i, false) :: r, a, w => ∃ o v, ops[i]? = some o ∧ YieldsIf P ops (But O w) o v a ∧ wpPo P O ops Q r (a.put o.dst v) w
  | (i, true) :: r, a, w => ∃ o, ops[i]? = some o ∧ Region.wanted o (yielded ops a.tmps) = true ∧ o.wp P a w (fun a' w' => But O w w' ∧ wpPo P O ops Q r a' w') Q

theorem held_of_po (hs : Region.noSelect ops = true) (hQ : ∀ c (a : Act) d v w, Q (.panic c) (a.put d v) w → Q (.panic c) a w) : ∀ (π : List (Nat × Bool)) (listed : Array Bool) (a : Act) (w : World),
    piB md ops π listed = true → wpPo P O ops Q π a w → wpAnyH P md ops Q (But O w) π.length listed a w
  | [], _, _, _, hB, h => ⟨by simpa [piB] using hB, h⟩
  | (i, false) :: r, listed, a, w, hB, h => by
    obtain ⟨o, v, hi, hy, h⟩ := h
    simp only [piB, Bool.and_eq_true] at hB
    exact wpAnyH_take hi hs hB.1.2 hB.1.1 (fun c a w hq => hQ c a o.dst v w hq) hy (But.refl _ _) (held_of_po hs hQ r _ _ _ hB.2 h)
  | (i, true) :: r, listed, a, w, hB, h => by
    obtain ⟨o, hi, hw, h⟩ := h
    simp only [piB, Bool.and_eq_true, decide_eq_true_eq] at hB
    refine ⟨fun h0 => (by rw [hB.1] at h0; cases h0), fun j hj => ?_⟩
    rw [hB.1] at hj
    obtain rfl : j = i := by simpa using hj
    unfold wpOp
    simp only [hi, hw, if_true]
    exact .inl (Oper.wp_mono (fun a' w' h' => ⟨h'.1, held_sub (fun _ hx => h'.1.trans hx) _ _ _ _ (held_of_po hs hQ r _ _ _ hB.2 h'.2)⟩) h)

theorem wp_region_po {id : Nat} {a : Act} {w : World} (O : Nat → Prop) (π : List (Nat × Bool)) (hm : P.follows .mixedOrders = true) (hs : Region.noSelect ops = true) (hB : piB .any ops π (Array.replicate ops.size false) = true) (hl : π.length = ops.size)
    (hQ : ∀ c (a : Act) d v w, Q (.panic c) (a.put d v) w → Q (.panic c) a w) (h : ∀ Wd, Below w.heap.size w Wd → wpPo P O ops Q π a Wd) : (Code.region id ops true).wp P Q a w :=
  wp_region_held (S := But O w.drew) hm (by have := held_of_po (md := .any) hs hQ π _ _ _ hB (h w.drew (Below.refl _ _).drew); rw [hl] at this; exact this)

theorem po_q {i : Nat} {o : Oper} {v : Value} {r : List (Nat × Bool)} {a : Act} {w : World} (hi : ops[i]? = some o) (hw : Region.wanted o (yielded ops a.tmps) = true) (hy : ∀ w', But O w w' → (execOp a.eval o).run P w' = .ok (.value v) w')
    (h : wpPo P O ops Q r (a.put o.dst v) w) : wpPo P O ops Q ((i, false) :: r) a w := ⟨o, v, hi, .inl ⟨hw, hy⟩, h⟩
theorem po_no {i : Nat} {o : Oper} {r : List (Nat × Bool)} {a : Act} {w : World} (hi : ops[i]? = some o) (hw : Region.wanted o (yielded ops a.tmps) = false)
    (h : wpPo P O ops Q r (a.put o.dst undef) w) : wpPo P O ops Q ((i, false) :: r) a w := ⟨o, undef, hi, .inr ⟨hw, rfl⟩, h⟩
theorem po_c {i : Nat} {o : Oper} {r : List (Nat × Bool)} {a : Act} {w : World} (hi : ops[i]? = some o) (hw : Region.wanted o (yielded ops a.tmps) = true)
    (h : ∀ K : Act → World → Prop, Shut (∀ a' w', But O w w' → wpPo P O ops Q r a' w' → K a' w') → o.wp P a w K Q) : wpPo P O ops Q ((i, true) :: r) a w :=
  ⟨o, hi, hw, h _ (fun _ _ h1 h2 => ⟨h1, h2⟩)⟩
theorem po_load {i : Nat} {o : Oper} {r : List (Nat × Bool)} {a : Act} {w : World} (hi : ops[i]? = some o) (hw : Region.wanted o (yielded ops a.tmps) = true)
    (ty : TypeId) (x : Operand) (ho : o.op = .load ty x) (b off : Nat) (hx : a.eval x = .pointer (some ⟨b, off, none⟩)) (cs : List Value) (d : TypeDesc) (hr : w.rangeAt b off cs) (hO : ¬ O b)
    (hu : P.underlying ty = some d) (hd : d.isRow = true) (hn : (P.info? ty).map (·.size) = some cs.length) (h : wpPo P O ops Q r (a.put o.dst (.agg cs.toArray)) w) : wpPo P O ops Q ((i, false) :: r) a w :=
  ⟨o, _, hi, yieldsIf_load_mid hw ty x ho b off hx cs d (fun _ hb j v hj => hb.cell (hr j v hj) hO) hu hd hn, h⟩
theorem po_look {i : Nat} {o : Oper} {v : Value} {r : List (Nat × Bool)} {a : Act} {w : World} (hi : ops[i]? = some o) (hw : Region.wanted o (yielded ops a.tmps) = true) (t : TypeId) (m x : Operand) (c : Bool) (ho : o.op = .lookup t m x c)
    {mv xv : Value} (hm : a.eval m = mv) (hx : a.eval x = xv) (hr : ∀ w', But O w w' → (Instr.lookup t mv xv c).run P w' = .ok v w')
    (h : wpPo P O ops Q r (a.put o.dst v) w) : wpPo P O ops Q ((i, false) :: r) a w :=
  po_q hi hw (fun w' hb => by unfold execOp; simp only [ho, hm, hx, Sem.run_bind, Sem.run_pure, Result.andThen_ok, hr w' hb]) h
theorem po_put {i : Nat} {o : Oper} {r : List (Nat × Bool)} {a : Act} {w w' : World} (hi : ops[i]? = some o) (hw : Region.wanted o (yielded ops a.tmps) = true) (t : TypeId) (m x y : Operand) (ho : o.op = .mapUpdate t m x y)
    {mv xv yv : Value} (hm : a.eval m = mv) (hx : a.eval x = xv) (hy : a.eval y = yv) (hr : (Instr.mapUpdate t mv xv yv).run P w = .ok () w') (hb : But O w w')
    (h : wpPo P O ops Q r (a.put o.dst undef) w') : wpPo P O ops Q ((i, true) :: r) a w :=
  ⟨o, hi, hw, by
    unfold Oper.wp execOp
    simp only [ho, hm, hx, hy, Sem.run_bind, Sem.run_pure, Result.andThen_ok, hr]
    exact ⟨hb, h⟩⟩
theorem pi_look {i : Nat} {o : Oper} {v : Value} {r : List (Nat × Bool)} {a : Act} {w : World} (hi : ops[i]? = some o) (hw : Region.wanted o (yielded ops a.tmps) = true) (t : TypeId) (m x : Operand) (c : Bool) (ho : o.op = .lookup t m x c)
    {mv xv : Value} (hm : a.eval m = mv) (hx : a.eval x = xv) (hr : ∀ w', Below w.heap.size w w' → (Instr.lookup t mv xv c).run P w' = .ok v w')
    (h : wpPi P ops Q r (a.put o.dst v) w) : wpPi P ops Q ((i, false) :: r) a w :=
  pi_q hi hw (fun w' hb => by unfold execOp; simp only [ho, hm, hx, Sem.run_bind, Sem.run_pure, Result.andThen_ok, hr w' hb]) h
theorem po_nil {a : Act} {w : World} (h : Q .normal a w) : wpPo P O ops Q [] a w := h
end
end Go.Proofs.Ytfoncaamhleckaa
