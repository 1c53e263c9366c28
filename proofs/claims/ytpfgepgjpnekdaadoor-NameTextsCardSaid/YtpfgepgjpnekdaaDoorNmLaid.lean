/-
  From a row's laid variables to what the walks ask: the table of powers, the two errors of strconv.
-/
import Derived.Test.YtpfgepgjpnekdaaDoorNmFmt
import Derived.LaidLaws
import Derived.Lib.LaidTab
import Derived.Lib.LaidU8
import Derived.ChangeBears2
namespace Go.Proofs.YtpfgepgjpnekdaaDoor
open Go.RowKit
set_option linter.unusedVariables false
/-- The cells that a flat datum of integers stands for. -/
def cellsD : DataW Unit → Array Value
  | .agg l => (l.map fun | .lit (.int k z) => Value.int k z | _ => .int .i64 0).toArray
  | _ => #[]
theorem errVar {W : World} {n nm : String} {g : Nat} {d : DataW Unit} (hr : Lib.VarReads Tryd.prog W n (.iface nm d)) (hg : Tryd.prog.globalNamed n = some g) (hty : (Tryd.prog.globals[g]?).map (·.type) = some 121) :
    ∃ v, W.cell? ⟨g, 0, none⟩ = some v ∧ (v = .nilIface ∨ ∃ te pe, v = .iface te pe) := by
  obtain ⟨g', t, cs, fuel, p, h1, h2, h3, h4⟩ := hr
  obtain rfl := Option.some.inj (hg.symm.trans h1)
  obtain rfl := Option.some.inj (hty.symm.trans h2)
  obtain ⟨f1, u, v, hcs, _, _⟩ := iface_of_trod Tryd.underlying121 h4
  refine ⟨.iface u v, ?_, .inr ⟨u, v, rfl⟩⟩
  rw [World.var?_cell hg h3 0]
  obtain ⟨l⟩ := cs
  simp only at hcs
  subst hcs
  rfl
theorem powVar {W : World} {d : DataW Unit} (hd : d = Lib.tabData .u64 Lib.pow10Tab) (hr : Lib.VarReads Tryd.prog W "internal/strconv.uint64pow10" d) : Lib.TabIs Tryd.prog W "internal/strconv.uint64pow10" .u64 Lib.pow10Tab := by
  subst hd
  obtain ⟨g', t, cs, fuel, p, h1, h2, h3, h4⟩ := hr
  obtain rfl := Option.some.inj ((show Tryd.prog.globalNamed "internal/strconv.uint64pow10" = some 2 by kernel_rfl).symm.trans h1)
  obtain rfl := Option.some.inj ((show (Tryd.prog.globals[2]?).map (·.type) = some 160 by kernel_rfl).symm.trans h2)
  unfold Lib.TabIs
  rw [h3, ← Lib.cells_of_tab Tryd.underlying160 Tryd.underlying29 (by kernel_rfl) (by kernel_rfl) h4]
theorem nmT_of {W : World} {d0 d1 d2 : DataW Unit} {n1 n2 : String} (hd : d0 = Lib.tabData .u64 Lib.pow10Tab) (h0 : Lib.VarReads Tryd.prog W "internal/strconv.uint64pow10" d0) (h1 : Lib.VarReads Tryd.prog W "strconv.ErrRange" (.iface n1 d1)) (h2 : Lib.VarReads Tryd.prog W "strconv.ErrSyntax" (.iface n2 d2)) : NmT W :=
  ⟨powVar hd h0, errVar h2 (by kernel_rfl) (by kernel_rfl), errVar h1 (by kernel_rfl) (by kernel_rfl)⟩
end Go.Proofs.YtpfgepgjpnekdaaDoor
