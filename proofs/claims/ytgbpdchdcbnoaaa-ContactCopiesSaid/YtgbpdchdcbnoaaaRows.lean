/-
  No cell of these rows narrows 'for every input' (looked for: loops, veiled, ifaces, maps, wideKeys, modest, calm, conditions, laid).
  DERIVED. THE GIVEN ROWS OF THIS SEAT. 5 by the template 'for every input the law returns true; each argument reads behind the call as it read before'; 0 by the template 'total and deterministic' (their statements: YtgbpdchdcbnoaaaTotals.lean).
  GIVEN WITH THE SEED: the statements are not yours to turn. If you find one false, say at which input.
  Laid BY PROGRAM, IN A SANDBOX (cutbox-rows.mjs): the forced cells as the released guide's own fill.sh prints them over the translation 68ebeee221e717e2… (all of the seat's roots in one cut). By AI agents, Wed Nov 11 2026. No macro, syntax, notation, axiom, sorry.
-/
import Derived.Test.YtgbpdchdcbnoaaaChecked
import GoSem.Claim
import GoSem.ClaimJoined
import GoSem.ClaimMapViews
import Derived.JoinedTies
import Derived.KernelRfl
namespace Go.Proofs.Ytgbpdchdcbnoaaa
/- THE CELL 'sum', in the pinned program and in every row, IS THE sha256 OF THE DUMP (.gsa) THAT YtgbpdchdcbnoaaaProg.lean LOADS. Nothing in Lean hashes anything: it is a label: what it is worth is what the hold of that sum in a sandbox is worth. -/
noncomputable def Try.pinned : Pinned := { name := "ytgbpdchdcbnoaaa", sum := "68ebeee221e717e2ae79e225593de8e5114ed660adbbe19f61edd9e3db05409b", checked := Try.checked }
namespace Rows
def none {H : Type} : Left H := { results := [], args := [] }

/-- 'packsaddlelaw19.ContactChecks': WHATEVER THE INPUT: true; the input reads as it did. -/
def contactChecksSpec : ChangeSpec := { name := "contactChecks", fn := fun _ => fun
  | [d] => { results := [.lit (.bool true)], args := [d] }
  | _ => none }
def contactChecksRow : OpenClaim := { program := "ytgbpdchdcbnoaaa", sum := "68ebeee221e717e2ae79e225593de8e5114ed660adbbe19f61edd9e3db05409b", func := "packsaddle/packsaddlelaw19.ContactChecks", spec := "contactChecks", unfollowed := true, recurses := true, apart := false }
def ContactChecksSaid : Prop := contactChecksRow.holds Try.pinned (OpenSpec.ofChange contactChecksSpec)

/-- ITS FALSE NEIGHBOUR: 'it returns false'. Refute it at one input. -/
def contactChecksWrong : ChangeSpec := { name := "contactChecks", fn := fun _ => fun
  | [d] => { results := [.lit (.bool false)], args := [d] }
  | _ => none }
def ContactChecksWrongFalsely : Prop := contactChecksRow.holds Try.pinned (OpenSpec.ofChange contactChecksWrong)

/-- 'packsaddlelaw19.ContactFull': WHATEVER THE INPUT: true; the input reads as it did. -/
def contactFullSpec : ChangeSpec := { name := "contactFull", fn := fun _ => fun
  | [d] => { results := [.lit (.bool true)], args := [d] }
  | _ => none }
def contactFullRow : OpenClaim := { program := "ytgbpdchdcbnoaaa", sum := "68ebeee221e717e2ae79e225593de8e5114ed660adbbe19f61edd9e3db05409b", func := "packsaddle/packsaddlelaw19.ContactFull", spec := "contactFull", unfollowed := true, recurses := true, apart := false }
def ContactFullSaid : Prop := contactFullRow.holds Try.pinned (OpenSpec.ofChange contactFullSpec)

/-- ITS FALSE NEIGHBOUR: 'it returns false'. Refute it at one input. -/
def contactFullWrong : ChangeSpec := { name := "contactFull", fn := fun _ => fun
  | [d] => { results := [.lit (.bool false)], args := [d] }
  | _ => none }
def ContactFullWrongFalsely : Prop := contactFullRow.holds Try.pinned (OpenSpec.ofChange contactFullWrong)

/-- 'packsaddlelaw19.ContactHolds': WHATEVER THE INPUT: true; the input reads as it did. -/
def contactHoldsSpec : ChangeSpec := { name := "contactHolds", fn := fun _ => fun
  | [d1, d2, d3] => { results := [.lit (.bool true)], args := [d1, d2, d3] }
  | _ => none }
def contactHoldsRow : OpenClaim := { program := "ytgbpdchdcbnoaaa", sum := "68ebeee221e717e2ae79e225593de8e5114ed660adbbe19f61edd9e3db05409b", func := "packsaddle/packsaddlelaw19.ContactHolds", spec := "contactHolds", unfollowed := true, recurses := true, apart := false }
def ContactHoldsSaid : Prop := contactHoldsRow.holds Try.pinned (OpenSpec.ofChange contactHoldsSpec)

/-- ITS FALSE NEIGHBOUR: 'it returns false'. Refute it at one input. -/
def contactHoldsWrong : ChangeSpec := { name := "contactHolds", fn := fun _ => fun
  | [d1, d2, d3] => { results := [.lit (.bool false)], args := [d1, d2, d3] }
  | _ => none }
def ContactHoldsWrongFalsely : Prop := contactHoldsRow.holds Try.pinned (OpenSpec.ofChange contactHoldsWrong)

/-- 'packsaddlelaw19.ContactPlays': WHATEVER THE INPUT: true; the input reads as it did. -/
def contactPlaysSpec : ChangeSpec := { name := "contactPlays", fn := fun _ => fun
  | [d] => { results := [.lit (.bool true)], args := [d] }
  | _ => none }
def contactPlaysRow : OpenClaim := { program := "ytgbpdchdcbnoaaa", sum := "68ebeee221e717e2ae79e225593de8e5114ed660adbbe19f61edd9e3db05409b", func := "packsaddle/packsaddlelaw19.ContactPlays", spec := "contactPlays", unfollowed := true, recurses := true, apart := false }
def ContactPlaysSaid : Prop := contactPlaysRow.holds Try.pinned (OpenSpec.ofChange contactPlaysSpec)

/-- ITS FALSE NEIGHBOUR: 'it returns false'. Refute it at one input. -/
def contactPlaysWrong : ChangeSpec := { name := "contactPlays", fn := fun _ => fun
  | [d] => { results := [.lit (.bool false)], args := [d] }
  | _ => none }
def ContactPlaysWrongFalsely : Prop := contactPlaysRow.holds Try.pinned (OpenSpec.ofChange contactPlaysWrong)

/-- 'packsaddlelaw19.ContactCopies': WHATEVER THE INPUT: true; the input reads as it did. -/
def contactCopiesSpec : ChangeSpec := { name := "contactCopies", fn := fun _ => fun
  | [d1, d2] => { results := [.lit (.bool true)], args := [d1, d2] }
  | _ => none }
def contactCopiesRow : OpenClaim := { program := "ytgbpdchdcbnoaaa", sum := "68ebeee221e717e2ae79e225593de8e5114ed660adbbe19f61edd9e3db05409b", func := "packsaddle/packsaddlelaw19.ContactCopies", spec := "contactCopies", unfollowed := true, recurses := true, apart := false }
def ContactCopiesSaid : Prop := contactCopiesRow.holds Try.pinned (OpenSpec.ofChange contactCopiesSpec)

/-- ITS FALSE NEIGHBOUR: 'it returns false'. Refute it at one input. -/
def contactCopiesWrong : ChangeSpec := { name := "contactCopies", fn := fun _ => fun
  | [d1, d2] => { results := [.lit (.bool false)], args := [d1, d2] }
  | _ => none }
def ContactCopiesWrongFalsely : Prop := contactCopiesRow.holds Try.pinned (OpenSpec.ofChange contactCopiesWrong)

/- THE SECOND FORM. 'bulk': how many values and letters a reading holds, each counted each time it is reached (what is shared counts as often as it is met; a slice's spare places count too). A statement '..UptoSaid' is the law's where the arguments, and the package variables that the reading takes, are together of bulk at most 1048576: NARROWER than '..Said'. Prove '..Said' where nothing that the law and all that it calls make is longer than what came in: it says more and counts as full. Else prove '..UptoSaid'. A law counts once. -/
mutual
def uptoBulk {H : Type} : DataW H → Nat
  | .lit (.string bytes) => bytes.length + 1
  | .lit _ => 1
  | .nil => 1
  | .ptr d => uptoBulk d + 1
  | .slice elems spare => uptoBulkAll elems + uptoBulkAll spare + 1
  | .agg parts => uptoBulkAll parts + 1
  | .iface _ d => uptoBulk d + 1
  | .map entries => uptoBulkEntries entries + 1
  | .held _ => 1
def uptoBulkAll {H : Type} : List (DataW H) → Nat
  | [] => 0
  | d :: r => uptoBulk d + uptoBulkAll r
def uptoBulkEntries {H : Type} : List (Lit × DataW H) → Nat
  | [] => 0
  | x :: r => uptoBulkEntry x + uptoBulkEntries r
def uptoBulkEntry {H : Type} : Lit × DataW H → Nat
  | (.string bytes, d) => bytes.length + uptoBulk d + 1
  | (_, d) => uptoBulk d + 1
 end
def uptoSmall : (H : Type) → List (DataW H) → Bool := fun _ ds => decide (uptoBulkAll ds ≤ 1048576)
def OpenSpec.upto (s : _root_.Go.ChangeSpec) : _root_.Go.OpenSpec := { _root_.Go.OpenSpec.ofChange s with cond := some uptoSmall }

/-- 'packsaddlelaw19.ContactChecks', WHERE WHAT IT READS IS OF BULK AT MOST 1048576: true; the input reads as it did. -/
def contactChecksUptoRow : OpenClaim := { program := "ytgbpdchdcbnoaaa", sum := "68ebeee221e717e2ae79e225593de8e5114ed660adbbe19f61edd9e3db05409b", func := "packsaddle/packsaddlelaw19.ContactChecks", spec := "contactChecks", unfollowed := true, recurses := true, apart := false, narrowed := true }
def ContactChecksUptoSaid : Prop := contactChecksUptoRow.holds Try.pinned (OpenSpec.upto contactChecksSpec)

/-- 'packsaddlelaw19.ContactFull', WHERE WHAT IT READS IS OF BULK AT MOST 1048576: true; the input reads as it did. -/
def contactFullUptoRow : OpenClaim := { program := "ytgbpdchdcbnoaaa", sum := "68ebeee221e717e2ae79e225593de8e5114ed660adbbe19f61edd9e3db05409b", func := "packsaddle/packsaddlelaw19.ContactFull", spec := "contactFull", unfollowed := true, recurses := true, apart := false, narrowed := true }
def ContactFullUptoSaid : Prop := contactFullUptoRow.holds Try.pinned (OpenSpec.upto contactFullSpec)

/-- 'packsaddlelaw19.ContactHolds', WHERE WHAT IT READS IS OF BULK AT MOST 1048576: true; the input reads as it did. -/
def contactHoldsUptoRow : OpenClaim := { program := "ytgbpdchdcbnoaaa", sum := "68ebeee221e717e2ae79e225593de8e5114ed660adbbe19f61edd9e3db05409b", func := "packsaddle/packsaddlelaw19.ContactHolds", spec := "contactHolds", unfollowed := true, recurses := true, apart := false, narrowed := true }
def ContactHoldsUptoSaid : Prop := contactHoldsUptoRow.holds Try.pinned (OpenSpec.upto contactHoldsSpec)

/-- 'packsaddlelaw19.ContactPlays', WHERE WHAT IT READS IS OF BULK AT MOST 1048576: true; the input reads as it did. -/
def contactPlaysUptoRow : OpenClaim := { program := "ytgbpdchdcbnoaaa", sum := "68ebeee221e717e2ae79e225593de8e5114ed660adbbe19f61edd9e3db05409b", func := "packsaddle/packsaddlelaw19.ContactPlays", spec := "contactPlays", unfollowed := true, recurses := true, apart := false, narrowed := true }
def ContactPlaysUptoSaid : Prop := contactPlaysUptoRow.holds Try.pinned (OpenSpec.upto contactPlaysSpec)

/-- 'packsaddlelaw19.ContactCopies', WHERE WHAT IT READS IS OF BULK AT MOST 1048576: true; the input reads as it did. -/
def contactCopiesUptoRow : OpenClaim := { program := "ytgbpdchdcbnoaaa", sum := "68ebeee221e717e2ae79e225593de8e5114ed660adbbe19f61edd9e3db05409b", func := "packsaddle/packsaddlelaw19.ContactCopies", spec := "contactCopies", unfollowed := true, recurses := true, apart := false, narrowed := true }
def ContactCopiesUptoSaid : Prop := contactCopiesUptoRow.holds Try.pinned (OpenSpec.upto contactCopiesSpec)

end Rows
end Go.Proofs.Ytgbpdchdcbnoaaa
