/-
  IterB, PiO, Store: several texts in one (bundle.py).
-/
import Derived.Test.YtpfgepgjpnekdaaDoorNmO11
import Derived.Test.YtpfgepgjpnekdaaDoorNmO05
import Derived.Test.YtpfgepgjpnekdaaDoorNmO09
namespace Go.Proofs.YtpfgepgjpnekdaaDoor
open Go.RowKit
set_option linter.unusedVariables false

abbrev markD (D : Nat) : Deferred := { target := .collected D, args := #[] }

theorem leaves_marks {F : Fence} {n : Nat} {P : Program} {fn : Func} {tmps : Array Value} {R : Ending → World → Prop} : ∀ (Ds : List Nat) (w : World), Ds.Nodup → (∀ D ∈ Ds, w.heap[D]? = some (.deferred (some []))) →
    (∀ w', But (· ∈ Ds) w w' → ∃ v, (results fn tmps).run P w' = .ok v w' ∧ R (.returned v) w') → LeavesInM F n P fn tmps R (Ds.map markD) .returning w
  | [], w, _, _, h => h w (But.refl _ _)
  | D :: Ds, w, hnd, hD, h => by
    simp only [List.nodup_cons] at hnd
    have h0 := hD D (by simp)
    refine ⟨by simp, .inl ⟨_, _, rfl, run_takeDeferred h0, leaves_marks Ds _ hnd.2 (fun D' hD' => ?_) (fun w' hb => h w' ?_)⟩⟩
    · rw [World.putObj_heap_other (fun e => hnd.1 (by rw [← e]; exact hD'))]
      exact hD D' (by simp [hD'])
    · exact (But.putObj _ _ _ (.inl (by simp))).trans (hb.mono fun k _ hk => by simp [hk])

theorem still_val {P : Program} {ops : Array Oper} {w : World} {K : Act → Prop} {o : Oper} {rest : List Oper} {a : Act} (hw : Region.wanted o (yielded ops a.tmps) = true) {v : Value} (hv : (execOp a.eval o).run P w = .ok (.value v) w)
    (h : wpStill P ops w K rest (a.put o.dst v)) : wpStill P ops w K (o :: rest) a := by
  unfold wpStill
  rw [if_pos hw]
  unfold Oper.still
  rw [hv]
  exact ⟨rfl, h⟩
theorem still_load {P : Program} {ops : Array Oper} {w : World} {K : Act → Prop} {o : Oper} {rest : List Oper} {a : Act} (hw : Region.wanted o (yielded ops a.tmps) = true) (ty : TypeId) (x : Operand) (ho : o.op = .load ty x)
    (b off : Nat) (hx : a.eval x = .pointer (some ⟨b, off, none⟩)) (cs : List Value) (d : TypeDesc) (hr : w.rangeAt b off cs) (hu : P.underlying ty = some d) (hd : d.isRow = true) (hn : (P.info? ty).map (·.size) = some cs.length)
    (h : wpStill P ops w K rest (a.put o.dst (.agg cs.toArray))) : wpStill P ops w K (o :: rest) a :=
  still_val hw (by
    unfold execOp
    simp only [ho, hx, Instr.loadAt, Instr.sureAddr, Sem.run_bind, Sem.run_pure, Result.andThen_ok, run_loadVar_mid w b off ty cs d hr hu hd hn]) h
theorem wpListIn_val {F : Fence} {n : Nat} {P : Program} {ops : Array Oper} {rest : List Oper} {o : Oper} {a : Act} {w : World} {Q : Exit → Act → World → Prop} (hw : Region.wanted o (yielded ops a.tmps) = true)
    (hab : ∀ f, o.about P w a.eval = some f → F.fn f) (hnd : ∀ c, o.op ≠ .defer c) {v : Value} (hv : (execOp a.eval o).run P w = .ok (.value v) w) (h : wpListIn F n P ops Q rest (a.put o.dst v) w) : wpListIn F n P ops Q (o :: rest) a w := by
  unfold wpListIn
  rw [if_pos hw]
  refine ⟨hab, ?_⟩
  rw [Oper.semAt_eq _ _ _ hnd, hv]
  exact h
theorem wpListIn_loadr {F : Fence} {n : Nat} {P : Program} {ops : Array Oper} {rest : List Oper} {o : Oper} {a : Act} {w : World} {Q : Exit → Act → World → Prop} (hw : Region.wanted o (yielded ops a.tmps) = true) (ty : TypeId) (x : Operand) (ho : o.op = .load ty x)
    (b off : Nat) (hx : a.eval x = .pointer (some ⟨b, off, none⟩)) (cs : List Value) (d : TypeDesc) (hr : w.rangeAt b off cs) (hu : P.underlying ty = some d) (hd : d.isRow = true) (hn : (P.info? ty).map (·.size) = some cs.length)
    (h : wpListIn F n P ops Q rest (a.put o.dst (.agg cs.toArray)) w) : wpListIn F n P ops Q (o :: rest) a w :=
  wpListIn_val hw (fun f hf => by unfold Oper.about at hf; rw [ho] at hf; cases hf) (fun c hc => by rw [ho] at hc; cases hc) (by
    unfold execOp
    simp only [ho, hx, Instr.loadAt, Instr.sureAddr, Sem.run_bind, Sem.run_pure, Result.andThen_ok, run_loadVar_mid w b off ty cs d hr hu hd hn]) h
end Go.Proofs.YtpfgepgjpnekdaaDoor

namespace Go.Proofs.YtpfgepgjpnekdaaDoor
open Go.RowKit

section
variable {P : Program} {md : Region.Mode} {ops : Array Oper} {Q : Exit → Act → World → Prop} {O : Nat → Prop}

def wpPo (P : Program) (O : Nat → Prop) (ops : Array Oper) (Q : Exit → Act → World → Prop) : List (Nat × Bool) → Act → World → Prop
  | [], a, w => Q .normal a w
  | (i, false) :: r, a, w => ∃ o v, ops[i]? = some o ∧ YieldsIf P ops (But O w) o v a ∧ wpPo P O ops Q r (a.put o.dst v) w
  | (i, true) :: r, a, w => ∃ o, ops[i]? = some o ∧ Region.wanted o (yielded ops a.tmps) = true ∧ o.wp P a w (fun a' w' => But O w w' ∧ wpPo P O ops Q r a' w') Q

theorem held_of_po (hs : Region.noSelect ops = true) (hQ : ∀ c (a : Act) d v w, Q (.panic c) (a.put d v) w → Q (.panic c) a w) : ∀ (π : List (Nat × Bool)) (listed : Array Bool) (a : Act) (w : World),
    piB md ops π listed = true → wpPo P O ops Q π a w → wpAnyH P md ops Q (But O w) π.length listed a w
  | [], _, _, _, hB, h => ⟨by simpa [piB] using hB, h⟩
  | (i, false) :: r, listed, a, w, hB, h => by
    obtain ⟨o, v, hi, hy, h⟩ := h
    simp only [piB, Bool.and_eq_true] at hB
    exact wpAnyH_take hi hs hB.1.2 hB.1.1 (fun c a w hq => hQ c a o.dst v w hq) hy (But.refl _ _) (held_of_po hs hQ r _ _ _ hB.2 h)
  | (i, true) :: r, listed, a, w, hB, h => by
    obtain ⟨o, hi, hw, h⟩ := h
    simp only [piB, Bool.and_eq_true, decide_eq_true_eq] at hB
    refine ⟨fun h0 => (by rw [hB.1] at h0; cases h0), fun j hj => ?_⟩
    rw [hB.1] at hj
    obtain rfl : j = i := by simpa using hj
    unfold wpOp
    simp only [hi, hw, if_true]
    exact .inl (Oper.wp_mono (fun a' w' h' => ⟨h'.1, held_sub (fun _ hx => h'.1.trans hx) _ _ _ _ (held_of_po hs hQ r _ _ _ hB.2 h'.2)⟩) h)

theorem wp_region_po {id : Nat} {a : Act} {w : World} (O : Nat → Prop) (π : List (Nat × Bool)) (hm : P.follows .mixedOrders = true) (hs : Region.noSelect ops = true) (hB : piB .any ops π (Array.replicate ops.size false) = true) (hl : π.length = ops.size)
    (hQ : ∀ c (a : Act) d v w, Q (.panic c) (a.put d v) w → Q (.panic c) a w) (h : ∀ Wd, Below w.heap.size w Wd → wpPo P O ops Q π a Wd) : (Code.region id ops true).wp P Q a w :=
  wp_region_held (S := But O w.drew) hm (by have := held_of_po (md := .any) hs hQ π _ _ _ hB (h w.drew (Below.refl _ _).drew); rw [hl] at this; exact this)

theorem po_q {i : Nat} {o : Oper} {v : Value} {r : List (Nat × Bool)} {a : Act} {w : World} (hi : ops[i]? = some o) (hw : Region.wanted o (yielded ops a.tmps) = true) (hy : ∀ w', But O w w' → (execOp a.eval o).run P w' = .ok (.value v) w')
    (h : wpPo P O ops Q r (a.put o.dst v) w) : wpPo P O ops Q ((i, false) :: r) a w := ⟨o, v, hi, .inl ⟨hw, hy⟩, h⟩
theorem po_no {i : Nat} {o : Oper} {r : List (Nat × Bool)} {a : Act} {w : World} (hi : ops[i]? = some o) (hw : Region.wanted o (yielded ops a.tmps) = false)
    (h : wpPo P O ops Q r (a.put o.dst undef) w) : wpPo P O ops Q ((i, false) :: r) a w := ⟨o, undef, hi, .inr ⟨hw, rfl⟩, h⟩
theorem po_c {i : Nat} {o : Oper} {r : List (Nat × Bool)} {a : Act} {w : World} (hi : ops[i]? = some o) (hw : Region.wanted o (yielded ops a.tmps) = true)
    (h : ∀ K : Act → World → Prop, Shut (∀ a' w', But O w w' → wpPo P O ops Q r a' w' → K a' w') → o.wp P a w K Q) : wpPo P O ops Q ((i, true) :: r) a w :=
  ⟨o, hi, hw, h _ (fun _ _ h1 h2 => ⟨h1, h2⟩)⟩
theorem po_load {i : Nat} {o : Oper} {r : List (Nat × Bool)} {a : Act} {w : World} (hi : ops[i]? = some o) (hw : Region.wanted o (yielded ops a.tmps) = true)
    (ty : TypeId) (x : Operand) (ho : o.op = .load ty x) (b off : Nat) (hx : a.eval x = .pointer (some ⟨b, off, none⟩)) (cs : List Value) (d : TypeDesc) (hr : w.rangeAt b off cs) (hO : ¬ O b)
    (hu : P.underlying ty = some d) (hd : d.isRow = true) (hn : (P.info? ty).map (·.size) = some cs.length) (h : wpPo P O ops Q r (a.put o.dst (.agg cs.toArray)) w) : wpPo P O ops Q ((i, false) :: r) a w :=
  ⟨o, _, hi, yieldsIf_load_mid hw ty x ho b off hx cs d (fun _ hb j v hj => hb.cell (hr j v hj) hO) hu hd hn, h⟩
theorem po_look {i : Nat} {o : Oper} {v : Value} {r : List (Nat × Bool)} {a : Act} {w : World} (hi : ops[i]? = some o) (hw : Region.wanted o (yielded ops a.tmps) = true) (t : TypeId) (m x : Operand) (c : Bool) (ho : o.op = .lookup t m x c)
    {mv xv : Value} (hm : a.eval m = mv) (hx : a.eval x = xv) (hr : ∀ w', But O w w' → (Instr.lookup t mv xv c).run P w' = .ok v w')
    (h : wpPo P O ops Q r (a.put o.dst v) w) : wpPo P O ops Q ((i, false) :: r) a w :=
  po_q hi hw (fun w' hb => by unfold execOp; simp only [ho, hm, hx, Sem.run_bind, Sem.run_pure, Result.andThen_ok, hr w' hb]) h
theorem po_put {i : Nat} {o : Oper} {r : List (Nat × Bool)} {a : Act} {w w' : World} (hi : ops[i]? = some o) (hw : Region.wanted o (yielded ops a.tmps) = true) (t : TypeId) (m x y : Operand) (ho : o.op = .mapUpdate t m x y)
    {mv xv yv : Value} (hm : a.eval m = mv) (hx : a.eval x = xv) (hy : a.eval y = yv) (hr : (Instr.mapUpdate t mv xv yv).run P w = .ok () w') (hb : But O w w')
    (h : wpPo P O ops Q r (a.put o.dst undef) w') : wpPo P O ops Q ((i, true) :: r) a w :=
  ⟨o, hi, hw, by
    unfold Oper.wp execOp
    simp only [ho, hm, hx, hy, Sem.run_bind, Sem.run_pure, Result.andThen_ok, hr]
    exact ⟨hb, h⟩⟩
theorem pi_look {i : Nat} {o : Oper} {v : Value} {r : List (Nat × Bool)} {a : Act} {w : World} (hi : ops[i]? = some o) (hw : Region.wanted o (yielded ops a.tmps) = true) (t : TypeId) (m x : Operand) (c : Bool) (ho : o.op = .lookup t m x c)
    {mv xv : Value} (hm : a.eval m = mv) (hx : a.eval x = xv) (hr : ∀ w', Below w.heap.size w w' → (Instr.lookup t mv xv c).run P w' = .ok v w')
    (h : wpPi P ops Q r (a.put o.dst v) w) : wpPi P ops Q ((i, false) :: r) a w :=
  pi_q hi hw (fun w' hb => by unfold execOp; simp only [ho, hm, hx, Sem.run_bind, Sem.run_pure, Result.andThen_ok, hr w' hb]) h
theorem po_nil {a : Act} {w : World} (h : Q .normal a w) : wpPo P O ops Q [] a w := h
end
end Go.Proofs.YtpfgepgjpnekdaaDoor

namespace Go.Proofs.YtpfgepgjpnekdaaDoor
open Go.RowKit
set_option linter.unusedVariables false

def setAllA (cs : Array Value) : Nat → List Value → Array Value
  | _, [] => cs
  | o, v :: r => setAllA (cs.setIfInBounds o v) (o + 1) r
theorem setAllA_size : ∀ (vs : List Value) (cs : Array Value) (o : Nat), (setAllA cs o vs).size = cs.size
  | [], _, _ => rfl
  | v :: r, cs, o => by rw [setAllA, setAllA_size r]; simp
theorem setAllA_get : ∀ (vs : List Value) (cs : Array Value) (o i : Nat), o + vs.length ≤ cs.size → (setAllA cs o vs)[i]? = if o ≤ i ∧ i < o + vs.length then vs[i - o]? else cs[i]?
  | [], cs, o, i, _ => by rw [setAllA, if_neg (by simp)]
  | v :: r, cs, o, i, h => by
    simp only [List.length_cons] at h
    rw [setAllA, setAllA_get r _ (o + 1) i (by simp; omega)]
    simp only [List.length_cons]
    by_cases h1 : i = o
    · subst h1
      rw [if_neg (by omega), if_pos (by omega)]
      rw [Nat.sub_self, Array.getElem?_setIfInBounds_self_of_lt (by omega)]; rfl
    · by_cases h2 : o + 1 ≤ i ∧ i < o + 1 + r.length
      · rw [if_pos h2, if_pos (by omega)]
        rw [show i - o = (i - (o + 1)) + 1 by omega, List.getElem?_cons_succ]
      · rw [if_neg h2, if_neg (by omega)]
        rw [Array.getElem?_setIfInBounds_ne (fun e => h1 e.symm)]
theorem setAllA_all (vs : List Value) (cs : Array Value) (h : vs.length = cs.size) : setAllA cs 0 vs = vs.toArray := by
  refine Array.ext_getElem? fun i => ?_
  rw [setAllA_get vs cs 0 i (by omega)]
  by_cases hi : i < vs.length
  · rw [if_pos (by omega)]; simp
  · rw [if_neg (by omega), Array.getElem?_eq_none (by omega), Array.getElem?_eq_none (by simp; omega)]
theorem RowAt.sets {H : Nat} {T : TypeId} : ∀ (vs : List Value) {w : World} {cs : Array Value} (o : Nat), RowAt w H cs T → RowAt (w.setCells H o vs) H (setAllA cs o vs) T
  | [], _, _, _, h => h
  | v :: r, w, cs, o, h => RowAt.sets r (o + 1) (h.set o v)
theorem RowAt.setAll {w : World} {H : Nat} {cs : Array Value} {T : TypeId} (h : RowAt w H cs T) (vs : List Value) (hl : vs.length = cs.size) : RowAt (w.setCells H 0 vs) H vs.toArray T := by
  have := RowAt.sets vs 0 h
  rwa [setAllA_all vs cs hl] at this
theorem But.setCells {O : Nat → Prop} {b : Nat} : ∀ (vs : List Value) (w : World) (o : Nat), O b → But O w (w.setCells b o vs)
  | [], w, _, _ => But.refl _ w
  | v :: r, w, o, h => (But.setCell w ⟨b, o, none⟩ v (.inl h)).trans (But.setCells r _ (o + 1) h)
theorem RowAt.there {w : World} {H : Nat} {cs : Array Value} {T : TypeId} (h : RowAt w H cs T) {n : Nat} (hn : n ≤ cs.size) : w.there H 0 n := fun j hj => by
  rw [Nat.zero_add]
  exact ⟨by rw [h.cell (Array.getElem?_eq_getElem (by omega))]; rfl, h.fz j⟩
theorem wpList_put_row {P : Program} {ops : Array Oper} {rest : List Oper} {op : Oper} {a : Act} {w : World} {Q : Exit → Act → World → Prop} (hgd : op.guard = none) (ty : TypeId) (x y : Operand) (ho : op.op = .store ty x y)
    (H : Nat) (vs : List Value) {cs : Array Value} {T : TypeId} (hx : a.eval x = .pointer (some ⟨H, 0, none⟩)) (hy : a.eval y = .agg vs.toArray) (hr : RowAt w H cs T) (hl : vs.length = cs.size)
    (hi : (P.info? ty).map (·.size) = some vs.length) (h1 : vs.all (·.oneCell') = true)
    (h : ∀ w', RowAt w' H vs.toArray T → But (· = H) w w' → wpList P ops Q rest (a.put op.dst undef) w') : wpList P ops Q (op :: rest) a w :=
  wpList_store_mid hgd ty x y ho H 0 vs.toArray hx hy (hr.there (by simp; omega)) (by simpa using hi) (by simpa using h1) (h _ (hr.setAll vs hl) (But.setCells _ _ _ rfl))
theorem result_row {P : Program} {w : World} {H : Nat} {cs : List Value} {T : TypeId} {d : TypeDesc} (h : RowAt w H cs.toArray T) (ty : TypeId) (hu : P.underlying ty = some d) (hd : d.isRow = true) (hi : (P.info? ty).map (·.size) = some cs.length) :
    (loadVar ty ⟨H, 0, none⟩).run P w = .ok (.agg cs.toArray) w := run_loadVar_mid w H 0 ty cs d h.range hu hd hi
end Go.Proofs.YtpfgepgjpnekdaaDoor
