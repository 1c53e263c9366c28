/-
  A whole row of one's own is stored; a function's result in a row of its own.
-/
import Derived.Test.YtfoncaamhleckaaRow
import Derived.Test.YtfoncaamhleckaaIter
namespace Go.Proofs.Ytfoncaamhleckaa
open Go.RowKit
set_option linter.unusedVariables false

def setAllA (cs : Array Value) : Nat → List Value → Array Value
  | _, [] => cs
  | o, v :: r => setAllA (cs.setIfInBounds o v) (o + 1) r
theorem setAllA_size : ∀ (vs : List Value) (cs : Array Value) (o : Nat), (setAllA cs o vs).size = cs.size
  | [], _, _ => rfl
  | v :: r, cs, o => by rw [setAllA, setAllA_size r]; simp
theorem setAllA_get : ∀ (vs : List Value) (cs : Array Value) (o i : Nat), o + vs.length ≤ cs.size → (setAllA cs o vs)[i]? = if o ≤ i ∧ i < o + vs.length then vs[i - o]? else cs[i]?
  | [], cs, o, i, _ => by rw [setAllA, if_neg (by simp)]
  | v :: r, cs, o, i, h => by
    simp only [List.length_cons] at h
    rw [setAllA, setAllA_get r _ (o + 1) i (by simp; omega)]
    simp only [List.length_cons]
    by_cases h1 : i = o
    · subst h1
      rw [if_neg (by omega), if_pos (by omega)]
      rw [Nat.sub_self, Array.getElem?_setIfInBounds_self_of_lt (by omega)]; rfl
    · by_cases h2 : o + 1 ≤ i ∧ i < o + 1 + r.length
      · rw [if_pos h2, if_pos (by omega)]
        rw [show i - o = (i - (o + 1)) + 1 by omega, List.getElem?_cons_succ]
      · rw [if_neg h2, if_neg (by omega)]
        rw [Array.getElem?_setIfInBounds_ne (fun e => h1 e.symm)]
theorem setAllA_all (vs : List Value) (cs : Array Value) (h : vs.length = cs.size) : setAllA cs 0 vs = vs.toArray := by
  refine Array.ext_getElem? fun i => ?_
  rw [setAllA_get vs cs 0 i (by omega)]
  by_cases hi : i < vs.length
  · rw [if_pos (by omega)]; simp
  · rw [if_neg (by omega), Array.getElem?_eq_none (by omega), Array.getElem?_eq_none (by simp; omega)]
theorem RowAt.sets {H : Nat} {T : TypeId} : ∀ (vs : List Value) {w : World} {cs : Array Value} (o : Nat), RowAt w H cs T → RowAt (w.setCells H o vs) H (setAllA cs o vs) T
  | [], _, _, _, h => h
  | v :: r, w, cs, o, h => RowAt.sets r (o + 1) (h.set o v)
theorem RowAt.setAll {w : World} {H : Nat} {cs : Array Value} {T : TypeId} (h : RowAt w H cs T) (vs : List Value) (hl : vs.length = cs.size) : RowAt (w.setCells H 0 vs) H vs.toArray T := by
  have := RowAt.sets vs 0 h
  rwa [setAllA_all vs cs hl] at this
theorem But.setCells {O : Nat → Prop} {b : Nat} : ∀ (vs : List Value) (w : World) (o : Nat), O b → But O w (w.setCells b o vs)
  | [], w, _, _ => But.refl _ w
  | v :: r, w, o, h => (But.setCell w ⟨b, o, none⟩ v (.inl h)).trans (But.setCells r _ (o + 1) h)
theorem RowAt.there {w : World} {H : Nat} {cs : Array Value} {T : TypeId} (h : RowAt w H cs T) {n : Nat} (hn : n ≤ cs.size) : w.there H 0 n := fun j hj => by
  rw [Nat.zero_add]
  exact ⟨by rw [h.cell (Array.getElem?_eq_getElem (by omega))]; rfl, h.fz j⟩
theorem wpList_put_row {P : Program} {ops : Array Oper} {rest : List Oper} {op : Oper} {a : Act} {w : World} {Q : Exit → Act → World → Prop} (hgd : op.guard = none) (ty : TypeId) (x y : Operand) (ho : op.op = .store ty x y)
    (H : Nat) (vs : List Value) {cs : Array Value} {T : TypeId} (hx : a.eval x = .pointer (some ⟨H, 0, none⟩)) (hy : a.eval y = .agg vs.toArray) (hr : RowAt w H cs T) (hl : vs.length = cs.size)
    (hi : (P.info? ty).map (·.size) = some vs.length) (h1 : vs.all (·.oneCell') = true)
    (h : ∀ w', RowAt w' H vs.toArray T → But (· = H) w w' → wpList P ops Q rest (a.put op.dst undef) w') : wpList P ops Q (op :: rest) a w :=
  wpList_store_mid hgd ty x y ho H 0 vs.toArray hx hy (hr.there (by simp; omega)) (by simpa using hi) (by simpa using h1) (h _ (hr.setAll vs hl) (But.setCells _ _ _ rfl))
theorem result_row {P : Program} {w : World} {H : Nat} {cs : List Value} {T : TypeId} {d : TypeDesc} (h : RowAt w H cs.toArray T) (ty : TypeId) (hu : P.underlying ty = some d) (hd : d.isRow = true) (hi : (P.info? ty).map (·.size) = some cs.length) :
    (loadVar ty ⟨H, 0, none⟩).run P w = .ok (.agg cs.toArray) w := run_loadVar_mid w H 0 ty cs d h.range hu hd hi
end Go.Proofs.Ytfoncaamhleckaa
