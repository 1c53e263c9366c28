/-
  No cell of these rows narrows 'for every input' (looked for: loops, veiled, ifaces, maps, wideKeys, modest, calm, conditions, laid).
  DERIVED. THE GIVEN ROWS OF THIS SEAT. 3 by the template 'for every input the law returns true; each argument reads behind the call as it read before'; 0 by the template 'total and deterministic' (their statements: YthlgoclidgfejaaTotals.lean).
  GIVEN WITH THE SEED: the statements are not yours to turn. If you find one false, say at which input.
  Laid BY PROGRAM, IN A SANDBOX (cutbox-rows.mjs): the forced cells as the released guide's own fill.sh prints them over the translation de636795fe018c85… (all of the seat's roots in one cut). By AI agents, Wed Nov 11 2026. No macro, syntax, notation, axiom, sorry.
-/
import Derived.Test.YthlgoclidgfejaaChecked
import GoSem.Claim
import GoSem.ClaimJoined
import GoSem.ClaimMapViews
import Derived.JoinedTies
import Derived.KernelRfl
namespace Go.Proofs.Ythlgoclidgfejaa
/- THE CELL 'sum', in the pinned program and in every row, IS THE sha256 OF THE DUMP (.gsa) THAT YthlgoclidgfejaaProg.lean LOADS. Nothing in Lean hashes anything: it is a label: what it is worth is what the hold of that sum in a sandbox is worth. -/
noncomputable def Try.pinned : Pinned := { name := "ythlgoclidgfejaa", sum := "de636795fe018c853795d296d38207b67a0a23d5eb10f19e746025077a661755", checked := Try.checked }
namespace Rows
def none {H : Type} : Left H := { results := [], args := [] }

/-- 'packsaddlelaw30.TraceChecks': WHATEVER THE INPUT: true; the input reads as it did. -/
def traceChecksSpec : ChangeSpec := { name := "traceChecks", fn := fun _ => fun
  | [d] => { results := [.lit (.bool true)], args := [d] }
  | _ => none }
def traceChecksRow : OpenClaim := { program := "ythlgoclidgfejaa", sum := "de636795fe018c853795d296d38207b67a0a23d5eb10f19e746025077a661755", func := "packsaddle/packsaddlelaw30.TraceChecks", spec := "traceChecks", unfollowed := true, recurses := true, plainKeys := false, apart := false }
def TraceChecksSaid : Prop := traceChecksRow.holds Try.pinned (OpenSpec.ofChange traceChecksSpec)

/-- ITS FALSE NEIGHBOUR: 'it returns false'. Refute it at one input. -/
def traceChecksWrong : ChangeSpec := { name := "traceChecks", fn := fun _ => fun
  | [d] => { results := [.lit (.bool false)], args := [d] }
  | _ => none }
def TraceChecksWrongFalsely : Prop := traceChecksRow.holds Try.pinned (OpenSpec.ofChange traceChecksWrong)

/-- 'packsaddlelaw30.TraceEvents': WHATEVER THE INPUT: true; the input reads as it did. -/
def traceEventsSpec : ChangeSpec := { name := "traceEvents", fn := fun _ => fun
  | [d1, d2, d3] => { results := [.lit (.bool true)], args := [d1, d2, d3] }
  | _ => none }
def traceEventsRow : OpenClaim := { program := "ythlgoclidgfejaa", sum := "de636795fe018c853795d296d38207b67a0a23d5eb10f19e746025077a661755", func := "packsaddle/packsaddlelaw30.TraceEvents", spec := "traceEvents", unfollowed := true, recurses := true, plainKeys := false, apart := false }
def TraceEventsSaid : Prop := traceEventsRow.holds Try.pinned (OpenSpec.ofChange traceEventsSpec)

/-- ITS FALSE NEIGHBOUR: 'it returns false'. Refute it at one input. -/
def traceEventsWrong : ChangeSpec := { name := "traceEvents", fn := fun _ => fun
  | [d1, d2, d3] => { results := [.lit (.bool false)], args := [d1, d2, d3] }
  | _ => none }
def TraceEventsWrongFalsely : Prop := traceEventsRow.holds Try.pinned (OpenSpec.ofChange traceEventsWrong)

/-- 'packsaddlelaw30.TraceTales': WHATEVER THE INPUT: true; the input reads as it did. -/
def traceTalesSpec : ChangeSpec := { name := "traceTales", fn := fun _ => fun
  | [d1, d2, d3] => { results := [.lit (.bool true)], args := [d1, d2, d3] }
  | _ => none }
def traceTalesRow : OpenClaim := { program := "ythlgoclidgfejaa", sum := "de636795fe018c853795d296d38207b67a0a23d5eb10f19e746025077a661755", func := "packsaddle/packsaddlelaw30.TraceTales", spec := "traceTales", unfollowed := true, recurses := true, plainKeys := false, apart := false }
def TraceTalesSaid : Prop := traceTalesRow.holds Try.pinned (OpenSpec.ofChange traceTalesSpec)

/-- ITS FALSE NEIGHBOUR: 'it returns false'. Refute it at one input. -/
def traceTalesWrong : ChangeSpec := { name := "traceTales", fn := fun _ => fun
  | [d1, d2, d3] => { results := [.lit (.bool false)], args := [d1, d2, d3] }
  | _ => none }
def TraceTalesWrongFalsely : Prop := traceTalesRow.holds Try.pinned (OpenSpec.ofChange traceTalesWrong)

/- THE SECOND FORM. 'bulk': how many values and letters a reading holds, each counted each time it is reached (what is shared counts as often as it is met; a slice's spare places count too). A statement '..UptoSaid' is the law's where the arguments, and the package variables that the reading takes, are together of bulk at most 1048576: NARROWER than '..Said'. Prove '..Said' where nothing that the law and all that it calls make is longer than what came in: it says more and counts as full. Else prove '..UptoSaid'. A law counts once. -/
mutual
def uptoBulk {H : Type} : DataW H → Nat
  | .lit (.string bytes) => bytes.length + 1
  | .lit _ => 1
  | .nil => 1
  | .ptr d => uptoBulk d + 1
  | .slice elems spare => uptoBulkAll elems + uptoBulkAll spare + 1
  | .agg parts => uptoBulkAll parts + 1
  | .iface _ d => uptoBulk d + 1
  | .map entries => uptoBulkEntries entries + 1
  | .held _ => 1
def uptoBulkAll {H : Type} : List (DataW H) → Nat
  | [] => 0
  | d :: r => uptoBulk d + uptoBulkAll r
def uptoBulkEntries {H : Type} : List (Lit × DataW H) → Nat
  | [] => 0
  | x :: r => uptoBulkEntry x + uptoBulkEntries r
def uptoBulkEntry {H : Type} : Lit × DataW H → Nat
  | (.string bytes, d) => bytes.length + uptoBulk d + 1
  | (_, d) => uptoBulk d + 1
 end
def uptoSmall : (H : Type) → List (DataW H) → Bool := fun _ ds => decide (uptoBulkAll ds ≤ 1048576)
def OpenSpec.upto (s : _root_.Go.ChangeSpec) : _root_.Go.OpenSpec := { _root_.Go.OpenSpec.ofChange s with cond := some uptoSmall }

/-- 'packsaddlelaw30.TraceChecks', WHERE WHAT IT READS IS OF BULK AT MOST 1048576: true; the input reads as it did. -/
def traceChecksUptoRow : OpenClaim := { program := "ythlgoclidgfejaa", sum := "de636795fe018c853795d296d38207b67a0a23d5eb10f19e746025077a661755", func := "packsaddle/packsaddlelaw30.TraceChecks", spec := "traceChecks", unfollowed := true, recurses := true, plainKeys := false, apart := false, narrowed := true }
def TraceChecksUptoSaid : Prop := traceChecksUptoRow.holds Try.pinned (OpenSpec.upto traceChecksSpec)

/-- 'packsaddlelaw30.TraceEvents', WHERE WHAT IT READS IS OF BULK AT MOST 1048576: true; the input reads as it did. -/
def traceEventsUptoRow : OpenClaim := { program := "ythlgoclidgfejaa", sum := "de636795fe018c853795d296d38207b67a0a23d5eb10f19e746025077a661755", func := "packsaddle/packsaddlelaw30.TraceEvents", spec := "traceEvents", unfollowed := true, recurses := true, plainKeys := false, apart := false, narrowed := true }
def TraceEventsUptoSaid : Prop := traceEventsUptoRow.holds Try.pinned (OpenSpec.upto traceEventsSpec)

/-- 'packsaddlelaw30.TraceTales', WHERE WHAT IT READS IS OF BULK AT MOST 1048576: true; the input reads as it did. -/
def traceTalesUptoRow : OpenClaim := { program := "ythlgoclidgfejaa", sum := "de636795fe018c853795d296d38207b67a0a23d5eb10f19e746025077a661755", func := "packsaddle/packsaddlelaw30.TraceTales", spec := "traceTales", unfollowed := true, recurses := true, plainKeys := false, apart := false, narrowed := true }
def TraceTalesUptoSaid : Prop := traceTalesUptoRow.holds Try.pinned (OpenSpec.upto traceTalesSpec)

end Rows
end Go.Proofs.Ythlgoclidgfejaa
