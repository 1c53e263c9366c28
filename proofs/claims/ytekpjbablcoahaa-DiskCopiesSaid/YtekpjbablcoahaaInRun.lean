/-
  Within a round: one operation by its run; a whole row stored.
-/
import Derived.Test.YtekpjbablcoahaaIterB
import Derived.Test.YtekpjbablcoahaaStore
import Derived.Great.Walk
namespace Go.Proofs.Ytekpjbablcoahaa
open Go.RowKit
set_option linter.unusedVariables false

section
variable {F : Fence} {n : Nat} {P : Program} {ops : Array Oper} {rest : List Oper} {o : Oper} {a : Act} {w w' : World} {Q : Exit → Act → World → Prop}
theorem wpListIn_runV (hw : Region.wanted o (yielded ops a.tmps) = true) (hab : ∀ f, o.about P w a.eval = some f → F.fn f) (hnd : ∀ c, o.op ≠ .defer c) (d : Option Tmp) (hd : o.dst = d) {v : Value} (hv : (execOp a.eval o).run P w = .ok (.value v) w')
    (h : wpListIn F n P ops Q rest (a.put d v) w') : wpListIn F n P ops Q (o :: rest) a w := by
  subst hd
  unfold wpListIn
  rw [if_pos hw]
  refine ⟨hab, ?_⟩
  rw [Oper.semAt_eq _ _ _ hnd, hv]
  exact h
theorem wpListIn_runS (hw : Region.wanted o (yielded ops a.tmps) = true) (hab : ∀ f, o.about P w a.eval = some f → F.fn f) (hnd : ∀ c, o.op ≠ .defer c) (d : Option Tmp) (hd : o.dst = d) (hv : (execOp a.eval o).run P w = .ok .skip w')
    (h : wpListIn F n P ops Q rest (a.put d undef) w') : wpListIn F n P ops Q (o :: rest) a w := by
  subst hd
  unfold wpListIn
  rw [if_pos hw]
  refine ⟨hab, ?_⟩
  rw [Oper.semAt_eq _ _ _ hnd, hv]
  exact h
theorem wpListIn_alloc (hw : Region.wanted o (yielded ops a.tmps) = true) (t : TypeId) (ho : o.op = .alloc t) (d : Option Tmp) (hd : o.dst = d) {ob : Obj} (hv : (execOp a.eval o).run P w = .ok (.value (.pointer (some ⟨w.heap.size, 0, none⟩))) (w.alloc ob))
    (h : wpListIn F n P ops Q rest (a.put d (.pointer (some ⟨w.heap.size, 0, none⟩))) (w.alloc ob)) : wpListIn F n P ops Q (o :: rest) a w :=
  wpListIn_runV hw (fun f hf => by unfold Oper.about at hf; rw [ho] at hf; cases hf) (fun c hc => by rw [ho] at hc; cases hc) d hd hv h
theorem wpListIn_put_row (hw : Region.wanted o (yielded ops a.tmps) = true) (ty : TypeId) (x y : Operand) (ho : o.op = .store ty x y)
    (H : Nat) (vs : List Value) {cs : Array Value} {T : TypeId} (hx : a.eval x = .pointer (some ⟨H, 0, none⟩)) (hy : a.eval y = .agg vs.toArray) (hr : RowAt w H cs T) (hl : vs.length = cs.size)
    (hi : (P.info? ty).map (·.size) = some vs.length) (h1 : vs.all (·.oneCell') = true) (d : Option Tmp) (hd : o.dst = d)
    (h : ∀ w', RowAt w' H vs.toArray T → But (· = H) w w' → wpListIn F n P ops Q rest (a.put d undef) w') : wpListIn F n P ops Q (o :: rest) a w :=
  wpListIn_runS hw (fun f hf => by unfold Oper.about at hf; rw [ho] at hf; cases hf) (fun c hc => by rw [ho] at hc; cases hc) d hd (by
    unfold execOp
    simp only [ho, hx, hy, Instr.storeAt, Instr.sureAddr, Sem.run_bind, Sem.run_pure, Result.andThen_ok, run_storeVar_mid w H 0 ty vs.toArray (hr.there (by simp; omega)) (by simpa using hi) (by simpa using h1)]) (h _ (hr.setAll vs hl) (But.setCells _ _ _ rfl))
end
end Go.Proofs.Ytekpjbablcoahaa
