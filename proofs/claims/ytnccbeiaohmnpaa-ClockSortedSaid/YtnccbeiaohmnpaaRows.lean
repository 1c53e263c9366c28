/-
  No cell of these rows narrows 'for every input' (looked for: loops, veiled, ifaces, maps, wideKeys, modest, calm, conditions, laid).
  DERIVED. THE GIVEN ROWS OF THIS SEAT. 4 by the template 'for every input the law returns true; each argument reads behind the call as it read before'; 0 by the template 'total and deterministic' (their statements: YtnccbeiaohmnpaaTotals.lean).
  GIVEN WITH THE SEED: the statements are not yours to turn. If you find one false, say at which input.
  Laid BY PROGRAM, IN A SANDBOX (cutbox-rows.mjs): the forced cells as the released guide's own fill.sh prints them over the translation 8e8c470c6432bfeb… (all of the seat's roots in one cut). By AI agents, Wed Nov 11 2026. No macro, syntax, notation, axiom, sorry.
-/
import Derived.Test.YtnccbeiaohmnpaaChecked
import GoSem.Claim
import GoSem.ClaimJoined
import GoSem.ClaimMapViews
import Derived.JoinedTies
import Derived.KernelRfl
namespace Go.Proofs.Ytnccbeiaohmnpaa
/- THE CELL 'sum', in the pinned program and in every row, IS THE sha256 OF THE DUMP (.gsa) THAT YtnccbeiaohmnpaaProg.lean LOADS. Nothing in Lean hashes anything: it is a label: what it is worth is what the hold of that sum in a sandbox is worth. -/
noncomputable def Try.pinned : Pinned := { name := "ytnccbeiaohmnpaa", sum := "8e8c470c6432bfebd915d0fdcae0936977d2923d3c86ba5f77083b9e003e5bc0", checked := Try.checked }
namespace Rows
def none {H : Type} : Left H := { results := [], args := [] }

/-- 'packsaddlelaw04.ClockSpans': WHATEVER THE INPUT: true; the input reads as it did. -/
def clockSpansSpec : ChangeSpec := { name := "clockSpans", fn := fun _ => fun
  | [d1, d2, d3] => { results := [.lit (.bool true)], args := [d1, d2, d3] }
  | _ => none }
def clockSpansRow : OpenClaim := { program := "ytnccbeiaohmnpaa", sum := "8e8c470c6432bfebd915d0fdcae0936977d2923d3c86ba5f77083b9e003e5bc0", func := "packsaddle/packsaddlelaw04.ClockSpans", spec := "clockSpans", unfollowed := true, recurses := true, apart := false }
def ClockSpansSaid : Prop := clockSpansRow.holds Try.pinned (OpenSpec.ofChange clockSpansSpec)

/-- ITS FALSE NEIGHBOUR: 'it returns false'. Refute it at one input. -/
def clockSpansWrong : ChangeSpec := { name := "clockSpans", fn := fun _ => fun
  | [d1, d2, d3] => { results := [.lit (.bool false)], args := [d1, d2, d3] }
  | _ => none }
def ClockSpansWrongFalsely : Prop := clockSpansRow.holds Try.pinned (OpenSpec.ofChange clockSpansWrong)

/-- 'packsaddlelaw04.ClockHolds': WHATEVER THE INPUT: true; the input reads as it did. -/
def clockHoldsSpec : ChangeSpec := { name := "clockHolds", fn := fun _ => fun
  | [d1, d2, d3] => { results := [.lit (.bool true)], args := [d1, d2, d3] }
  | _ => none }
def clockHoldsRow : OpenClaim := { program := "ytnccbeiaohmnpaa", sum := "8e8c470c6432bfebd915d0fdcae0936977d2923d3c86ba5f77083b9e003e5bc0", func := "packsaddle/packsaddlelaw04.ClockHolds", spec := "clockHolds", unfollowed := true, recurses := true, apart := false }
def ClockHoldsSaid : Prop := clockHoldsRow.holds Try.pinned (OpenSpec.ofChange clockHoldsSpec)

/-- ITS FALSE NEIGHBOUR: 'it returns false'. Refute it at one input. -/
def clockHoldsWrong : ChangeSpec := { name := "clockHolds", fn := fun _ => fun
  | [d1, d2, d3] => { results := [.lit (.bool false)], args := [d1, d2, d3] }
  | _ => none }
def ClockHoldsWrongFalsely : Prop := clockHoldsRow.holds Try.pinned (OpenSpec.ofChange clockHoldsWrong)

/-- 'packsaddlelaw04.ClockSums': WHATEVER THE INPUT: true; the input reads as it did. -/
def clockSumsSpec : ChangeSpec := { name := "clockSums", fn := fun _ => fun
  | [d1, d2] => { results := [.lit (.bool true)], args := [d1, d2] }
  | _ => none }
def clockSumsRow : OpenClaim := { program := "ytnccbeiaohmnpaa", sum := "8e8c470c6432bfebd915d0fdcae0936977d2923d3c86ba5f77083b9e003e5bc0", func := "packsaddle/packsaddlelaw04.ClockSums", spec := "clockSums", unfollowed := true, recurses := true, apart := false }
def ClockSumsSaid : Prop := clockSumsRow.holds Try.pinned (OpenSpec.ofChange clockSumsSpec)

/-- ITS FALSE NEIGHBOUR: 'it returns false'. Refute it at one input. -/
def clockSumsWrong : ChangeSpec := { name := "clockSums", fn := fun _ => fun
  | [d1, d2] => { results := [.lit (.bool false)], args := [d1, d2] }
  | _ => none }
def ClockSumsWrongFalsely : Prop := clockSumsRow.holds Try.pinned (OpenSpec.ofChange clockSumsWrong)

/-- 'packsaddlelaw04.ClockSorted': WHATEVER THE INPUT: true; the input reads as it did. -/
def clockSortedSpec : ChangeSpec := { name := "clockSorted", fn := fun _ => fun
  | [d1, d2] => { results := [.lit (.bool true)], args := [d1, d2] }
  | _ => none }
def clockSortedRow : OpenClaim := { program := "ytnccbeiaohmnpaa", sum := "8e8c470c6432bfebd915d0fdcae0936977d2923d3c86ba5f77083b9e003e5bc0", func := "packsaddle/packsaddlelaw04.ClockSorted", spec := "clockSorted", unfollowed := true, recurses := true, apart := false }
def ClockSortedSaid : Prop := clockSortedRow.holds Try.pinned (OpenSpec.ofChange clockSortedSpec)

/-- ITS FALSE NEIGHBOUR: 'it returns false'. Refute it at one input. -/
def clockSortedWrong : ChangeSpec := { name := "clockSorted", fn := fun _ => fun
  | [d1, d2] => { results := [.lit (.bool false)], args := [d1, d2] }
  | _ => none }
def ClockSortedWrongFalsely : Prop := clockSortedRow.holds Try.pinned (OpenSpec.ofChange clockSortedWrong)

/- THE SECOND FORM. 'bulk': how many values and letters a reading holds, each counted each time it is reached (what is shared counts as often as it is met; a slice's spare places count too). A statement '..UptoSaid' is the law's where the arguments, and the package variables that the reading takes, are together of bulk at most 1048576: NARROWER than '..Said'. Prove '..Said' where nothing that the law and all that it calls make is longer than what came in: it says more and counts as full. Else prove '..UptoSaid'. A law counts once. -/
mutual
def uptoBulk {H : Type} : DataW H → Nat
  | .lit (.string bytes) => bytes.length + 1
  | .lit _ => 1
  | .nil => 1
  | .ptr d => uptoBulk d + 1
  | .slice elems spare => uptoBulkAll elems + uptoBulkAll spare + 1
  | .agg parts => uptoBulkAll parts + 1
  | .iface _ d => uptoBulk d + 1
  | .map entries => uptoBulkEntries entries + 1
  | .held _ => 1
def uptoBulkAll {H : Type} : List (DataW H) → Nat
  | [] => 0
  | d :: r => uptoBulk d + uptoBulkAll r
def uptoBulkEntries {H : Type} : List (Lit × DataW H) → Nat
  | [] => 0
  | x :: r => uptoBulkEntry x + uptoBulkEntries r
def uptoBulkEntry {H : Type} : Lit × DataW H → Nat
  | (.string bytes, d) => bytes.length + uptoBulk d + 1
  | (_, d) => uptoBulk d + 1
 end
def uptoSmall : (H : Type) → List (DataW H) → Bool := fun _ ds => decide (uptoBulkAll ds ≤ 1048576)
def OpenSpec.upto (s : _root_.Go.ChangeSpec) : _root_.Go.OpenSpec := { _root_.Go.OpenSpec.ofChange s with cond := some uptoSmall }

/-- 'packsaddlelaw04.ClockSpans', WHERE WHAT IT READS IS OF BULK AT MOST 1048576: true; the input reads as it did. -/
def clockSpansUptoRow : OpenClaim := { program := "ytnccbeiaohmnpaa", sum := "8e8c470c6432bfebd915d0fdcae0936977d2923d3c86ba5f77083b9e003e5bc0", func := "packsaddle/packsaddlelaw04.ClockSpans", spec := "clockSpans", unfollowed := true, recurses := true, apart := false, narrowed := true }
def ClockSpansUptoSaid : Prop := clockSpansUptoRow.holds Try.pinned (OpenSpec.upto clockSpansSpec)

/-- 'packsaddlelaw04.ClockHolds', WHERE WHAT IT READS IS OF BULK AT MOST 1048576: true; the input reads as it did. -/
def clockHoldsUptoRow : OpenClaim := { program := "ytnccbeiaohmnpaa", sum := "8e8c470c6432bfebd915d0fdcae0936977d2923d3c86ba5f77083b9e003e5bc0", func := "packsaddle/packsaddlelaw04.ClockHolds", spec := "clockHolds", unfollowed := true, recurses := true, apart := false, narrowed := true }
def ClockHoldsUptoSaid : Prop := clockHoldsUptoRow.holds Try.pinned (OpenSpec.upto clockHoldsSpec)

/-- 'packsaddlelaw04.ClockSums', WHERE WHAT IT READS IS OF BULK AT MOST 1048576: true; the input reads as it did. -/
def clockSumsUptoRow : OpenClaim := { program := "ytnccbeiaohmnpaa", sum := "8e8c470c6432bfebd915d0fdcae0936977d2923d3c86ba5f77083b9e003e5bc0", func := "packsaddle/packsaddlelaw04.ClockSums", spec := "clockSums", unfollowed := true, recurses := true, apart := false, narrowed := true }
def ClockSumsUptoSaid : Prop := clockSumsUptoRow.holds Try.pinned (OpenSpec.upto clockSumsSpec)

/-- 'packsaddlelaw04.ClockSorted', WHERE WHAT IT READS IS OF BULK AT MOST 1048576: true; the input reads as it did. -/
def clockSortedUptoRow : OpenClaim := { program := "ytnccbeiaohmnpaa", sum := "8e8c470c6432bfebd915d0fdcae0936977d2923d3c86ba5f77083b9e003e5bc0", func := "packsaddle/packsaddlelaw04.ClockSorted", spec := "clockSorted", unfollowed := true, recurses := true, apart := false, narrowed := true }
def ClockSortedUptoSaid : Prop := clockSortedUptoRow.holds Try.pinned (OpenSpec.upto clockSortedSpec)

end Rows
end Go.Proofs.Ytnccbeiaohmnpaa
