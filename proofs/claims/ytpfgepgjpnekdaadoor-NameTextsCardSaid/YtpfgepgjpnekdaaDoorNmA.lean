/-
  name.must, name.caught: giving up with an error.
-/
import Derived.Test.YtpfgepgjpnekdaaDoorCbA
import Derived.WalkLawsBesides
import Derived.Defers
import Derived.Recover
import Derived.Lib.Hide
namespace Go.Proofs.YtpfgepgjpnekdaaDoor
open Go.RowKit
set_option linter.unusedSimpArgs false
set_option linter.unusedVariables false

theorem nmMust_yes (e : Int) (w : World) : Calls Tryd.prog 39 #[.bool true, .int .i64 e] w fun en w' => en = .returned (.tuple #[]) ∧ w = w' := by
  go_enter Tryd.func39, Tryd.ntmps39
  go_wp2
  go_end0
  exact ⟨rfl, rfl⟩
theorem nmMust_no (e : Int) (w : World) : Calls Tryd.prog 39 #[.bool false, .int .i64 e] w fun en w' => en = .panicked (gup e) ∧ w = w' := by
  go_enter Tryd.func39, Tryd.ntmps39
  go_wp2
  exact ⟨rfl, rfl, rfl⟩
theorem nmCaught_idle (p : Addr) (g : FuncId) (caps : Array Value) (w : World) :
    CallsD Tryd.prog 37 #[.pointer (some p), .func (.func g) #[] caps] .returning w fun e u' w' => e = .returned (.tuple #[]) ∧ u' = .returning ∧ w' = w := by
  refine callsD_of_wpS Tryd.func37 rfl fun c₀ cs hu => ?_
  apply wpS_seq
  apply wpS_region
  simp [wpOpsS, go_sem, recoverD, hu, Tryd.ntmps37, Exit.thenS, Array.replicate_succ]
  refine wpS_of_wp ?_
  go_wp2
  cases c₀
  simp_all [bodyPostS, results, Tryd.results37, Exit.thenS]
set_option maxRecDepth 100000 in
/-- What is given up with is noted, and what was under way is cleared. -/
theorem nmCaught_gup (p : Nat) (e e0 : Int) (g : FuncId) (caps : Array Value) (hg : Enters Tryd.prog g) (w : World) (hc : w.cell? ⟨p, 0, none⟩ = some (.int .i64 e0)) (hz : w.frozen? ⟨p, 0, none⟩ = false) {R : World → Prop}
    (hcl : Calls Tryd.prog g caps (w.setCell ⟨p, 0, none⟩ (.int .i64 e)) fun en w' => en = .returned (.tuple #[]) ∧ R w') :
    CallsD Tryd.prog 37 #[.pointer (some ⟨p, 0, none⟩), .func (.func g) #[] caps] (.panicking (gup e)) w fun en u' w' => en = .returned (.tuple #[]) ∧ u' = .panicking (gupR e) ∧ R w' := by
  refine callsD_of_wpS Tryd.func37 rfl fun c₀ cs hu => ?_
  have HC := Lib.hid hcl
  clear hcl
  have hta : ∀ (e : Int) (w : World), (Instr.typeAssert (.iface 26 (.int .i64 e)) 20 26 false).run Tryd.prog w = .ok (.int .i64 e) w := fun _ _ => by kernel_rfl
  apply wpS_seq
  apply wpS_region
  simp [wpOpsS, go_sem, recoverD, hu, Tryd.ntmps37, Exit.thenS, Array.replicate_succ]
  refine wpS_of_wp ?_
  unfold Enters at hg
  go_wp2_with (refine HC.out.mono ?_; rintro en w1 ⟨rfl, hr⟩)
  cases c₀
  simp_all [bodyPostS, results, Tryd.results37, Exit.thenS]
end Go.Proofs.YtpfgepgjpnekdaaDoor
