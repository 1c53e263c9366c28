/-
  The contracts of lost and fates.
-/
import Derived.Test.YtekpjbablcoahaaDiskF
namespace Go.Proofs.Ytekpjbablcoahaa
open Go.RowKit Go.Maps Dk
set_option linter.unusedSimpArgs false
set_option linter.unusedVariables false

set_option maxRecDepth 100000 in
theorem dLost_c (q : Value) (p : Int × Sec) (w : World) : Calls Try.prog 52 #[q, putV p] w fun en w' => en = .returned (.tuple #[]) ∧ Below w.heap.size w w' := by
  have hB := below_alloc w (.cells (putC p).toArray 78)
  go_enter Try.func52, Try.ntmps52
  go_wp2
  go_end0
  exact ⟨rfl, hB⟩
theorem dEnters_lost : Enters Try.prog 52 := enters_of Try.func52 (by kernel_rfl) rfl
theorem dEnters_whole : Enters Try.prog 34 := enters_of Try.func34 (by kernel_rfl) rfl

section
variable {P : Program}
theorem wpList_ins {ops : Array Oper} {rest : List Oper} {o : Oper} {a : Act} {w w' : World} {Q : Exit → Act → World → Prop} (hgd : o.guard = none) (t : TypeId) (m x y : Operand) (ho : o.op = .insert t m x y) {mv xv yv : Value} (hm : a.eval m = mv) (hx : a.eval x = xv) (hy : a.eval y = yv)
    (hr : (Instr.mapUpdate t mv xv yv).run P w = .ok () w') (h : wpList P ops Q rest (a.put o.dst undef) w') : wpList P ops Q (o :: rest) a w :=
  wpList_plain hgd fun K hK => by
    unfold Oper.wp execOp
    simp only [ho, hm, hx, hy, Sem.run_bind, Sem.run_pure, Result.andThen_ok, hr]
    exact hK _ _ h
end
abbrev FMap (w : World) (M : Nat) : Prop := MapAt Try.prog 4 w M [(.bool false, .func (.func 52) #[] #[]), (.bool true, .func (.func 34) #[] #[])]
set_option maxRecDepth 100000 in
theorem dFates_c (w : World) : Calls Try.prog 39 #[] w fun en w' => en = .returned (.map (some w.heap.size)) ∧ FMap w' w.heap.size ∧ Below w.heap.size w w' := by
  have hmk := run_makeMap (P := Try.prog) 83 w
  have K : Keyed Try.prog 4 := bool_keyed Try.underlying4
  have hB := below_alloc w (.map #[] 0)
  obtain ⟨w1, hr1, hm1, hb1⟩ := (MapAt.new (P := Try.prog) (k := 4) w).put_new K Try.underlying83 (v := .func (.func 52) #[] #[]) (keyOf_bool_mk Try.underlying4 false) (fun p hp => by cases hp)
  obtain ⟨w2, hr2, hm2, hb2⟩ := hm1.put_new K Try.underlying83 (v := .func (.func 34) #[] #[]) (keyOf_bool_mk Try.underlying4 true) (fun p hp e => by simp at hp; subst hp; simp at e)
  have hB2 := hB.trans ((hb1.trans hb2).below (fun q e => by omega) hB.size)
  go_enter Try.func39, Try.ntmps39
  go_wp2_with (first
    | (refine wpList_ins rfl 83 (.tmp 1) (.const (.bool false)) (.func 52) rfl rfl rfl rfl hr1 ?_)
    | (refine wpList_ins rfl 83 (.tmp 1) (.const (.bool true)) (.func 34) rfl rfl rfl rfl hr2 ?_))
  go_ret
  exact ⟨rfl, hm2, hB2⟩
end Go.Proofs.Ytekpjbablcoahaa
