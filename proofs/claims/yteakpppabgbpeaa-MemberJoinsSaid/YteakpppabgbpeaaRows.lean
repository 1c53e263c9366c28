/-
  No cell of these rows narrows 'for every input' (looked for: loops, veiled, ifaces, maps, wideKeys, modest, calm, conditions, laid).
  DERIVED. THE GIVEN ROWS OF THIS SEAT. 5 by the template 'for every input the law returns true; each argument reads behind the call as it read before'; 0 by the template 'total and deterministic' (their statements: YteakpppabgbpeaaTotals.lean).
  GIVEN WITH THE SEED: the statements are not yours to turn. If you find one false, say at which input.
  Laid BY PROGRAM, IN A SANDBOX (cutbox-rows.mjs): the forced cells as the released guide's own fill.sh prints them over the translation 76666b14b35f3653… (all of the seat's roots in one cut). By AI agents, Wed Nov 11 2026. No macro, syntax, notation, axiom, sorry.
-/
import Derived.Test.YteakpppabgbpeaaChecked
import GoSem.Claim
import GoSem.ClaimJoined
import GoSem.ClaimMapViews
import Derived.JoinedTies
import Derived.KernelRfl
namespace Go.Proofs.Yteakpppabgbpeaa
/- THE CELL 'sum', in the pinned program and in every row, IS THE sha256 OF THE DUMP (.gsa) THAT YteakpppabgbpeaaProg.lean LOADS. Nothing in Lean hashes anything: it is a label: what it is worth is what the hold of that sum in a sandbox is worth. -/
noncomputable def Try.pinned : Pinned := { name := "yteakpppabgbpeaa", sum := "76666b14b35f3653c877bd71e637a0d4bc20ca71b283598fc348676295fe5784", checked := Try.checked }
namespace Rows
def none {H : Type} : Left H := { results := [], args := [] }

/-- 'packsaddlelaw22.MemberOutdoes': WHATEVER THE INPUT: true; the input reads as it did. -/
def memberOutdoesSpec : ChangeSpec := { name := "memberOutdoes", fn := fun _ => fun
  | [d1, d2] => { results := [.lit (.bool true)], args := [d1, d2] }
  | _ => none }
def memberOutdoesRow : OpenClaim := { program := "yteakpppabgbpeaa", sum := "76666b14b35f3653c877bd71e637a0d4bc20ca71b283598fc348676295fe5784", func := "packsaddle/packsaddlelaw22.MemberOutdoes", spec := "memberOutdoes", unfollowed := true, recurses := true, plainKeys := false, apart := false }
def MemberOutdoesSaid : Prop := memberOutdoesRow.holds Try.pinned (OpenSpec.ofChange memberOutdoesSpec)

/-- ITS FALSE NEIGHBOUR: 'it returns false'. Refute it at one input. -/
def memberOutdoesWrong : ChangeSpec := { name := "memberOutdoes", fn := fun _ => fun
  | [d1, d2] => { results := [.lit (.bool false)], args := [d1, d2] }
  | _ => none }
def MemberOutdoesWrongFalsely : Prop := memberOutdoesRow.holds Try.pinned (OpenSpec.ofChange memberOutdoesWrong)

/-- 'packsaddlelaw22.MemberFull': WHATEVER THE INPUT: true; the input reads as it did. -/
def memberFullSpec : ChangeSpec := { name := "memberFull", fn := fun _ => fun
  | [d] => { results := [.lit (.bool true)], args := [d] }
  | _ => none }
def memberFullRow : OpenClaim := { program := "yteakpppabgbpeaa", sum := "76666b14b35f3653c877bd71e637a0d4bc20ca71b283598fc348676295fe5784", func := "packsaddle/packsaddlelaw22.MemberFull", spec := "memberFull", unfollowed := true, recurses := true, plainKeys := false, apart := false }
def MemberFullSaid : Prop := memberFullRow.holds Try.pinned (OpenSpec.ofChange memberFullSpec)

/-- ITS FALSE NEIGHBOUR: 'it returns false'. Refute it at one input. -/
def memberFullWrong : ChangeSpec := { name := "memberFull", fn := fun _ => fun
  | [d] => { results := [.lit (.bool false)], args := [d] }
  | _ => none }
def MemberFullWrongFalsely : Prop := memberFullRow.holds Try.pinned (OpenSpec.ofChange memberFullWrong)

/-- 'packsaddlelaw22.MemberHolds': WHATEVER THE INPUT: true; the input reads as it did. -/
def memberHoldsSpec : ChangeSpec := { name := "memberHolds", fn := fun _ => fun
  | [d1, d2] => { results := [.lit (.bool true)], args := [d1, d2] }
  | _ => none }
def memberHoldsRow : OpenClaim := { program := "yteakpppabgbpeaa", sum := "76666b14b35f3653c877bd71e637a0d4bc20ca71b283598fc348676295fe5784", func := "packsaddle/packsaddlelaw22.MemberHolds", spec := "memberHolds", inPlace := ["maps.clone"], unfollowed := true, recurses := true, plainKeys := false, apart := false }
def MemberHoldsSaid : Prop := memberHoldsRow.holds Try.pinned (OpenSpec.ofChange memberHoldsSpec)

/-- ITS FALSE NEIGHBOUR: 'it returns false'. Refute it at one input. -/
def memberHoldsWrong : ChangeSpec := { name := "memberHolds", fn := fun _ => fun
  | [d1, d2] => { results := [.lit (.bool false)], args := [d1, d2] }
  | _ => none }
def MemberHoldsWrongFalsely : Prop := memberHoldsRow.holds Try.pinned (OpenSpec.ofChange memberHoldsWrong)

/-- 'packsaddlelaw22.MemberPlays': WHATEVER THE INPUT: true; the input reads as it did. -/
def memberPlaysSpec : ChangeSpec := { name := "memberPlays", fn := fun _ => fun
  | [d] => { results := [.lit (.bool true)], args := [d] }
  | _ => none }
def memberPlaysRow : OpenClaim := { program := "yteakpppabgbpeaa", sum := "76666b14b35f3653c877bd71e637a0d4bc20ca71b283598fc348676295fe5784", func := "packsaddle/packsaddlelaw22.MemberPlays", spec := "memberPlays", inPlace := ["maps.clone"], unfollowed := true, recurses := true, plainKeys := false, apart := false }
def MemberPlaysSaid : Prop := memberPlaysRow.holds Try.pinned (OpenSpec.ofChange memberPlaysSpec)

/-- ITS FALSE NEIGHBOUR: 'it returns false'. Refute it at one input. -/
def memberPlaysWrong : ChangeSpec := { name := "memberPlays", fn := fun _ => fun
  | [d] => { results := [.lit (.bool false)], args := [d] }
  | _ => none }
def MemberPlaysWrongFalsely : Prop := memberPlaysRow.holds Try.pinned (OpenSpec.ofChange memberPlaysWrong)

/-- 'packsaddlelaw22.MemberJoins': WHATEVER THE INPUT: true; the input reads as it did. -/
def memberJoinsSpec : ChangeSpec := { name := "memberJoins", fn := fun _ => fun
  | [d1, d2, d3] => { results := [.lit (.bool true)], args := [d1, d2, d3] }
  | _ => none }
def memberJoinsRow : OpenClaim := { program := "yteakpppabgbpeaa", sum := "76666b14b35f3653c877bd71e637a0d4bc20ca71b283598fc348676295fe5784", func := "packsaddle/packsaddlelaw22.MemberJoins", spec := "memberJoins", inPlace := ["maps.clone"], unfollowed := true, recurses := true, plainKeys := false, apart := false }
def MemberJoinsSaid : Prop := memberJoinsRow.holds Try.pinned (OpenSpec.ofChange memberJoinsSpec)

/-- ITS FALSE NEIGHBOUR: 'it returns false'. Refute it at one input. -/
def memberJoinsWrong : ChangeSpec := { name := "memberJoins", fn := fun _ => fun
  | [d1, d2, d3] => { results := [.lit (.bool false)], args := [d1, d2, d3] }
  | _ => none }
def MemberJoinsWrongFalsely : Prop := memberJoinsRow.holds Try.pinned (OpenSpec.ofChange memberJoinsWrong)

/- THE SECOND FORM. 'bulk': how many values and letters a reading holds, each counted each time it is reached (what is shared counts as often as it is met; a slice's spare places count too). A statement '..UptoSaid' is the law's where the arguments, and the package variables that the reading takes, are together of bulk at most 1048576: NARROWER than '..Said'. Prove '..Said' where nothing that the law and all that it calls make is longer than what came in: it says more and counts as full. Else prove '..UptoSaid'. A law counts once. -/
mutual
def uptoBulk {H : Type} : DataW H → Nat
  | .lit (.string bytes) => bytes.length + 1
  | .lit _ => 1
  | .nil => 1
  | .ptr d => uptoBulk d + 1
  | .slice elems spare => uptoBulkAll elems + uptoBulkAll spare + 1
  | .agg parts => uptoBulkAll parts + 1
  | .iface _ d => uptoBulk d + 1
  | .map entries => uptoBulkEntries entries + 1
  | .held _ => 1
def uptoBulkAll {H : Type} : List (DataW H) → Nat
  | [] => 0
  | d :: r => uptoBulk d + uptoBulkAll r
def uptoBulkEntries {H : Type} : List (Lit × DataW H) → Nat
  | [] => 0
  | x :: r => uptoBulkEntry x + uptoBulkEntries r
def uptoBulkEntry {H : Type} : Lit × DataW H → Nat
  | (.string bytes, d) => bytes.length + uptoBulk d + 1
  | (_, d) => uptoBulk d + 1
 end
def uptoSmall : (H : Type) → List (DataW H) → Bool := fun _ ds => decide (uptoBulkAll ds ≤ 1048576)
def OpenSpec.upto (s : _root_.Go.ChangeSpec) : _root_.Go.OpenSpec := { _root_.Go.OpenSpec.ofChange s with cond := some uptoSmall }

/-- 'packsaddlelaw22.MemberOutdoes', WHERE WHAT IT READS IS OF BULK AT MOST 1048576: true; the input reads as it did. -/
def memberOutdoesUptoRow : OpenClaim := { program := "yteakpppabgbpeaa", sum := "76666b14b35f3653c877bd71e637a0d4bc20ca71b283598fc348676295fe5784", func := "packsaddle/packsaddlelaw22.MemberOutdoes", spec := "memberOutdoes", unfollowed := true, recurses := true, plainKeys := false, apart := false, narrowed := true }
def MemberOutdoesUptoSaid : Prop := memberOutdoesUptoRow.holds Try.pinned (OpenSpec.upto memberOutdoesSpec)

/-- 'packsaddlelaw22.MemberFull', WHERE WHAT IT READS IS OF BULK AT MOST 1048576: true; the input reads as it did. -/
def memberFullUptoRow : OpenClaim := { program := "yteakpppabgbpeaa", sum := "76666b14b35f3653c877bd71e637a0d4bc20ca71b283598fc348676295fe5784", func := "packsaddle/packsaddlelaw22.MemberFull", spec := "memberFull", unfollowed := true, recurses := true, plainKeys := false, apart := false, narrowed := true }
def MemberFullUptoSaid : Prop := memberFullUptoRow.holds Try.pinned (OpenSpec.upto memberFullSpec)

/-- 'packsaddlelaw22.MemberHolds', WHERE WHAT IT READS IS OF BULK AT MOST 1048576: true; the input reads as it did. -/
def memberHoldsUptoRow : OpenClaim := { program := "yteakpppabgbpeaa", sum := "76666b14b35f3653c877bd71e637a0d4bc20ca71b283598fc348676295fe5784", func := "packsaddle/packsaddlelaw22.MemberHolds", spec := "memberHolds", inPlace := ["maps.clone"], unfollowed := true, recurses := true, plainKeys := false, apart := false, narrowed := true }
def MemberHoldsUptoSaid : Prop := memberHoldsUptoRow.holds Try.pinned (OpenSpec.upto memberHoldsSpec)

/-- 'packsaddlelaw22.MemberPlays', WHERE WHAT IT READS IS OF BULK AT MOST 1048576: true; the input reads as it did. -/
def memberPlaysUptoRow : OpenClaim := { program := "yteakpppabgbpeaa", sum := "76666b14b35f3653c877bd71e637a0d4bc20ca71b283598fc348676295fe5784", func := "packsaddle/packsaddlelaw22.MemberPlays", spec := "memberPlays", inPlace := ["maps.clone"], unfollowed := true, recurses := true, plainKeys := false, apart := false, narrowed := true }
def MemberPlaysUptoSaid : Prop := memberPlaysUptoRow.holds Try.pinned (OpenSpec.upto memberPlaysSpec)

/-- 'packsaddlelaw22.MemberJoins', WHERE WHAT IT READS IS OF BULK AT MOST 1048576: true; the input reads as it did. -/
def memberJoinsUptoRow : OpenClaim := { program := "yteakpppabgbpeaa", sum := "76666b14b35f3653c877bd71e637a0d4bc20ca71b283598fc348676295fe5784", func := "packsaddle/packsaddlelaw22.MemberJoins", spec := "memberJoins", inPlace := ["maps.clone"], unfollowed := true, recurses := true, plainKeys := false, apart := false, narrowed := true }
def MemberJoinsUptoSaid : Prop := memberJoinsUptoRow.holds Try.pinned (OpenSpec.upto memberJoinsSpec)

end Rows
end Go.Proofs.Yteakpppabgbpeaa
