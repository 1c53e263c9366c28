/-
  NmPn: several texts in one (bundle.py).
-/
import Derived.Test.YtpkonagjnfphkaaGreatDoorPmB26
import Derived.Test.YtpkonagjnfphkaaGreatDoorPmB22
namespace Go.Proofs.YtpkonagjnfphkaaGreatDoor
open Go.RowKit Trc
set_option linter.unusedSimpArgs false
set_option linter.unusedVariables false
namespace Dig
/-- Four numbers of a name. -/
structure N4 where
  n : Nat
  m : Nat
  t : Nat
  s : Nat
def nameQ (l : List UInt8) : Option N4 := match cut 32 l with
  | none => none
  | some (a, r) => match endP a with
    | none => none
    | some p => match cut 32 r with
      | none => none
      | some (b, c) => match toNum b 4611686018427387903 with
        | none => none
        | some t => match toNum c 4294967295 with
          | none => none
          | some s => if p.1 = 0 then none else some ⟨p.1, p.2, t, s⟩
def nameP (l : List UInt8) : N4 × Int := if 100 < l.length then (⟨0, 0, 0, 0⟩, 3) else match nameQ l with | some p => (p, 0) | none => (⟨0, 0, 0, 0⟩, 130)
end Dig
/-- What ParseName tells. -/
def PnE (l : List UInt8) (w : World) (en : Ending) (w' : World) : Prop := Below w.heap.size w w' ∧ en = .returned (.tuple #[nmW (Dig.nameP l).1.n (Dig.nameP l).1.m (Dig.nameP l).1.t (Dig.nameP l).1.s, .int .i64 (Dig.nameP l).2])
theorem PnE.no {l : List UInt8} {w w' : World} {e : Int} (h : Dig.nameP l = (⟨0, 0, 0, 0⟩, e)) (hw : Below w.heap.size w w') : PnE l w (.returned (.tuple #[.agg #[.int .u32 0, .int .u32 0, .int .u64 0, .int .u32 0], .int .i64 e])) w' := ⟨hw, by rw [h]; try rfl⟩
theorem PnE.yes {l : List UInt8} {w w' : World} {n m t s : Nat} (h : Dig.nameP l = (⟨n, m, t, s⟩, 0)) (hw : Below w.heap.size w w') : PnE l w (.returned (.tuple #[nmW n m t s, .int .i64 0])) w' := ⟨hw, by rw [h]⟩
end Go.Proofs.YtpkonagjnfphkaaGreatDoor
