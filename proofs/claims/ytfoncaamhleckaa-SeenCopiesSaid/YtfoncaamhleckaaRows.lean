/-
  No cell of these rows narrows 'for every input' (looked for: loops, veiled, ifaces, maps, wideKeys, modest, calm, conditions, laid).
  DERIVED. THE GIVEN ROWS OF THIS SEAT. 3 by the template 'for every input the law returns true; each argument reads behind the call as it read before'; 0 by the template 'total and deterministic' (their statements: YtfoncaamhleckaaTotals.lean).
  GIVEN WITH THE SEED: the statements are not yours to turn. If you find one false, say at which input.
  Laid BY PROGRAM, IN A SANDBOX (cutbox-rows.mjs): the forced cells as the released guide's own fill.sh prints them over the translation 8278e4e709a1f7ec… (all of the seat's roots in one cut). By AI agents, Wed Nov 11 2026. No macro, syntax, notation, axiom, sorry.
-/
import Derived.Test.YtfoncaamhleckaaChecked
import GoSem.Claim
import GoSem.ClaimJoined
import GoSem.ClaimMapViews
import Derived.JoinedTies
import Derived.KernelRfl
namespace Go.Proofs.Ytfoncaamhleckaa
/- THE CELL 'sum', in the pinned program and in every row, IS THE sha256 OF THE DUMP (.gsa) THAT YtfoncaamhleckaaProg.lean LOADS. Nothing in Lean hashes anything: it is a label: what it is worth is what the hold of that sum in a sandbox is worth. -/
noncomputable def Try.pinned : Pinned := { name := "ytfoncaamhleckaa", sum := "8278e4e709a1f7ec191732552e37d2c9c73c9d8116bb5ef2b2050949c1599e4d", checked := Try.checked }
namespace Rows
def none {H : Type} : Left H := { results := [], args := [] }

/-- 'packsaddlelaw15.SeenHolds': WHATEVER THE INPUT: true; the input reads as it did. -/
def seenHoldsSpec : ChangeSpec := { name := "seenHolds", fn := fun _ => fun
  | [d1, d2] => { results := [.lit (.bool true)], args := [d1, d2] }
  | _ => none }
def seenHoldsRow : OpenClaim := { program := "ytfoncaamhleckaa", sum := "8278e4e709a1f7ec191732552e37d2c9c73c9d8116bb5ef2b2050949c1599e4d", func := "packsaddle/packsaddlelaw15.SeenHolds", spec := "seenHolds", inPlace := ["maps.clone"], unfollowed := true, recurses := true, plainKeys := false, apart := false }
def SeenHoldsSaid : Prop := seenHoldsRow.holds Try.pinned (OpenSpec.ofChange seenHoldsSpec)

/-- ITS FALSE NEIGHBOUR: 'it returns false'. Refute it at one input. -/
def seenHoldsWrong : ChangeSpec := { name := "seenHolds", fn := fun _ => fun
  | [d1, d2] => { results := [.lit (.bool false)], args := [d1, d2] }
  | _ => none }
def SeenHoldsWrongFalsely : Prop := seenHoldsRow.holds Try.pinned (OpenSpec.ofChange seenHoldsWrong)

/-- 'packsaddlelaw15.SeenPlays': WHATEVER THE INPUT: true; the input reads as it did. -/
def seenPlaysSpec : ChangeSpec := { name := "seenPlays", fn := fun _ => fun
  | [d1, d2] => { results := [.lit (.bool true)], args := [d1, d2] }
  | _ => none }
def seenPlaysRow : OpenClaim := { program := "ytfoncaamhleckaa", sum := "8278e4e709a1f7ec191732552e37d2c9c73c9d8116bb5ef2b2050949c1599e4d", func := "packsaddle/packsaddlelaw15.SeenPlays", spec := "seenPlays", inPlace := ["maps.clone"], unfollowed := true, recurses := true, plainKeys := false, apart := false }
def SeenPlaysSaid : Prop := seenPlaysRow.holds Try.pinned (OpenSpec.ofChange seenPlaysSpec)

/-- ITS FALSE NEIGHBOUR: 'it returns false'. Refute it at one input. -/
def seenPlaysWrong : ChangeSpec := { name := "seenPlays", fn := fun _ => fun
  | [d1, d2] => { results := [.lit (.bool false)], args := [d1, d2] }
  | _ => none }
def SeenPlaysWrongFalsely : Prop := seenPlaysRow.holds Try.pinned (OpenSpec.ofChange seenPlaysWrong)

/-- 'packsaddlelaw15.SeenCopies': WHATEVER THE INPUT: true; the input reads as it did. -/
def seenCopiesSpec : ChangeSpec := { name := "seenCopies", fn := fun _ => fun
  | [d1, d2, d3] => { results := [.lit (.bool true)], args := [d1, d2, d3] }
  | _ => none }
def seenCopiesRow : OpenClaim := { program := "ytfoncaamhleckaa", sum := "8278e4e709a1f7ec191732552e37d2c9c73c9d8116bb5ef2b2050949c1599e4d", func := "packsaddle/packsaddlelaw15.SeenCopies", spec := "seenCopies", inPlace := ["maps.clone"], unfollowed := true, recurses := true, plainKeys := false, apart := false }
def SeenCopiesSaid : Prop := seenCopiesRow.holds Try.pinned (OpenSpec.ofChange seenCopiesSpec)

/-- ITS FALSE NEIGHBOUR: 'it returns false'. Refute it at one input. -/
def seenCopiesWrong : ChangeSpec := { name := "seenCopies", fn := fun _ => fun
  | [d1, d2, d3] => { results := [.lit (.bool false)], args := [d1, d2, d3] }
  | _ => none }
def SeenCopiesWrongFalsely : Prop := seenCopiesRow.holds Try.pinned (OpenSpec.ofChange seenCopiesWrong)

/- THE SECOND FORM. 'bulk': how many values and letters a reading holds, each counted each time it is reached (what is shared counts as often as it is met; a slice's spare places count too). A statement '..UptoSaid' is the law's where the arguments, and the package variables that the reading takes, are together of bulk at most 1048576: NARROWER than '..Said'. Prove '..Said' where nothing that the law and all that it calls make is longer than what came in: it says more and counts as full. Else prove '..UptoSaid'. A law counts once. -/
mutual
def uptoBulk {H : Type} : DataW H → Nat
  | .lit (.string bytes) => bytes.length + 1
  | .lit _ => 1
  | .nil => 1
  | .ptr d => uptoBulk d + 1
  | .slice elems spare => uptoBulkAll elems + uptoBulkAll spare + 1
  | .agg parts => uptoBulkAll parts + 1
  | .iface _ d => uptoBulk d + 1
  | .map entries => uptoBulkEntries entries + 1
  | .held _ => 1
def uptoBulkAll {H : Type} : List (DataW H) → Nat
  | [] => 0
  | d :: r => uptoBulk d + uptoBulkAll r
def uptoBulkEntries {H : Type} : List (Lit × DataW H) → Nat
  | [] => 0
  | x :: r => uptoBulkEntry x + uptoBulkEntries r
def uptoBulkEntry {H : Type} : Lit × DataW H → Nat
  | (.string bytes, d) => bytes.length + uptoBulk d + 1
  | (_, d) => uptoBulk d + 1
 end
def uptoSmall : (H : Type) → List (DataW H) → Bool := fun _ ds => decide (uptoBulkAll ds ≤ 1048576)
def OpenSpec.upto (s : _root_.Go.ChangeSpec) : _root_.Go.OpenSpec := { _root_.Go.OpenSpec.ofChange s with cond := some uptoSmall }

/-- 'packsaddlelaw15.SeenHolds', WHERE WHAT IT READS IS OF BULK AT MOST 1048576: true; the input reads as it did. -/
def seenHoldsUptoRow : OpenClaim := { program := "ytfoncaamhleckaa", sum := "8278e4e709a1f7ec191732552e37d2c9c73c9d8116bb5ef2b2050949c1599e4d", func := "packsaddle/packsaddlelaw15.SeenHolds", spec := "seenHolds", inPlace := ["maps.clone"], unfollowed := true, recurses := true, plainKeys := false, apart := false, narrowed := true }
def SeenHoldsUptoSaid : Prop := seenHoldsUptoRow.holds Try.pinned (OpenSpec.upto seenHoldsSpec)

/-- 'packsaddlelaw15.SeenPlays', WHERE WHAT IT READS IS OF BULK AT MOST 1048576: true; the input reads as it did. -/
def seenPlaysUptoRow : OpenClaim := { program := "ytfoncaamhleckaa", sum := "8278e4e709a1f7ec191732552e37d2c9c73c9d8116bb5ef2b2050949c1599e4d", func := "packsaddle/packsaddlelaw15.SeenPlays", spec := "seenPlays", inPlace := ["maps.clone"], unfollowed := true, recurses := true, plainKeys := false, apart := false, narrowed := true }
def SeenPlaysUptoSaid : Prop := seenPlaysUptoRow.holds Try.pinned (OpenSpec.upto seenPlaysSpec)

/-- 'packsaddlelaw15.SeenCopies', WHERE WHAT IT READS IS OF BULK AT MOST 1048576: true; the input reads as it did. -/
def seenCopiesUptoRow : OpenClaim := { program := "ytfoncaamhleckaa", sum := "8278e4e709a1f7ec191732552e37d2c9c73c9d8116bb5ef2b2050949c1599e4d", func := "packsaddle/packsaddlelaw15.SeenCopies", spec := "seenCopies", inPlace := ["maps.clone"], unfollowed := true, recurses := true, plainKeys := false, apart := false, narrowed := true }
def SeenCopiesUptoSaid : Prop := seenCopiesUptoRow.holds Try.pinned (OpenSpec.upto seenCopiesSpec)

end Rows
end Go.Proofs.Ytfoncaamhleckaa
