/-
  NARROWER THAN 'FOR EVERY INPUT', by the rows' own cells (each row's printed sentence says how): CborBytes: laid · CborBounds: laid · CborHolds: loops, laid · CborItems: loops, laid · CborSame: loops, laid.
  DERIVED. THE GIVEN ROWS OF THIS SEAT. 5 by the template 'for every input the law returns true; each argument reads behind the call as it read before'; 0 by the template 'total and deterministic' (their statements: YtjenohodgpmchaaDoorTotals.lean).
  GIVEN WITH THE SEED: the statements are not yours to turn. If you find one false, say at which input.
  Laid BY PROGRAM, IN A SANDBOX (cutbox-rows.mjs): the forced cells as the released guide's own fill.sh prints them over the translation 02521f0cda009925… (all of the seat's roots in one cut). By AI agents, Wed Nov 11 2026. No macro, syntax, notation, axiom, sorry.
-/
import Derived.Test.YtjenohodgpmchaaDoorChecked
import GoSem.PinnedTables
import GoSem.Claim
import GoSem.ClaimJoined
import GoSem.ClaimMapViews
import Derived.JoinedTies
import Derived.KernelRfl
namespace Go.Proofs.YtjenohodgpmchaaDoor
/- THE CELL 'sum', in the pinned program and in every row, IS THE sha256 OF THE DUMP (.gsa) THAT YtjenohodgpmchaaDoorProg.lean LOADS. Nothing in Lean hashes anything: it is a label: what it is worth is what the hold of that sum in a sandbox is worth. -/
noncomputable def Tryd.pinned : Pinned := { name := "ytjenohodgpmchaadoor", sum := "02521f0cda009925887692645396dd93803b86834a2ced65ed054ce187423aaf", checked := Tryd.checked }
namespace Rows
def none {H : Type} : Left H := { results := [], args := [] }

/- WHAT THE LISTED PACKAGE-LEVEL VARIABLES READ AS WHEN THE CALL BEGINS. Each datum BY PROGRAM (the guide's laid-datum.mjs) off the statement by which the dump's own 'gosem.cut.vars' lays the variable. In a bare row this is a premise. The card (YtjenohodgpmchaaDoorCards.lean) ties it to the program's text. -/
def laid_unicode_utf8_acceptRanges {H : Type} : DataW H := .agg [.agg [.lit (.int .u8 128), .lit (.int .u8 191)], .agg [.lit (.int .u8 160), .lit (.int .u8 191)], .agg [.lit (.int .u8 128), .lit (.int .u8 159)], .agg [.lit (.int .u8 144), .lit (.int .u8 191)], .agg [.lit (.int .u8 128), .lit (.int .u8 143)], .agg [.lit (.int .u8 0), .lit (.int .u8 0)], .agg [.lit (.int .u8 0), .lit (.int .u8 0)], .agg [.lit (.int .u8 0), .lit (.int .u8 0)], .agg [.lit (.int .u8 0), .lit (.int .u8 0)], .agg [.lit (.int .u8 0), .lit (.int .u8 0)], .agg [.lit (.int .u8 0), .lit (.int .u8 0)], .agg [.lit (.int .u8 0), .lit (.int .u8 0)], .agg [.lit (.int .u8 0), .lit (.int .u8 0)], .agg [.lit (.int .u8 0), .lit (.int .u8 0)], .agg [.lit (.int .u8 0), .lit (.int .u8 0)], .agg [.lit (.int .u8 0), .lit (.int .u8 0)]]
/-- One of Go's own tables, pinned by name: the form's constant. -/
def laid_unicode_utf8_first : DataW Unit := Go.Pinned.utf8First

/-- 'packsaddlelaw03.CborBytes': WHATEVER THE INPUT: true; the input reads as it did. -/
def cborBytesSpec : ChangeSpec := { name := "cborBytes", fn := fun _ => fun
  | [d] => { results := [.lit (.bool true)], args := [d] }
  | _ => none }
def cborBytesRow : OpenClaim := { program := "ytjenohodgpmchaadoor", sum := "02521f0cda009925887692645396dd93803b86834a2ced65ed054ce187423aaf", func := "packsaddle/packsaddlelaw03.CborBytes", spec := "cborBytes", unfollowed := true, recurses := true, named := ["unicode/utf8.first", "unicode/utf8.acceptRanges"], apart := false, laid := [("unicode/utf8.acceptRanges", laid_unicode_utf8_acceptRanges), ("unicode/utf8.first", laid_unicode_utf8_first)] }
def CborBytesSaid : Prop := cborBytesRow.holds Tryd.pinned (OpenSpec.ofChange cborBytesSpec)

/-- ITS FALSE NEIGHBOUR: 'it returns false'. Refute it at one input. -/
def cborBytesWrong : ChangeSpec := { name := "cborBytes", fn := fun _ => fun
  | [d] => { results := [.lit (.bool false)], args := [d] }
  | _ => none }
def CborBytesWrongFalsely : Prop := cborBytesRow.holds Tryd.pinned (OpenSpec.ofChange cborBytesWrong)

/-- 'packsaddlelaw03.CborBounds': WHATEVER THE INPUT: true; the input reads as it did. -/
def cborBoundsSpec : ChangeSpec := { name := "cborBounds", fn := fun _ => fun
  | [d] => { results := [.lit (.bool true)], args := [d] }
  | _ => none }
def cborBoundsRow : OpenClaim := { program := "ytjenohodgpmchaadoor", sum := "02521f0cda009925887692645396dd93803b86834a2ced65ed054ce187423aaf", func := "packsaddle/packsaddlelaw03.CborBounds", spec := "cborBounds", unfollowed := true, recurses := true, named := ["unicode/utf8.first", "unicode/utf8.acceptRanges"], apart := false, laid := [("unicode/utf8.acceptRanges", laid_unicode_utf8_acceptRanges), ("unicode/utf8.first", laid_unicode_utf8_first)] }
def CborBoundsSaid : Prop := cborBoundsRow.holds Tryd.pinned (OpenSpec.ofChange cborBoundsSpec)

/-- ITS FALSE NEIGHBOUR: 'it returns false'. Refute it at one input. -/
def cborBoundsWrong : ChangeSpec := { name := "cborBounds", fn := fun _ => fun
  | [d] => { results := [.lit (.bool false)], args := [d] }
  | _ => none }
def CborBoundsWrongFalsely : Prop := cborBoundsRow.holds Tryd.pinned (OpenSpec.ofChange cborBoundsWrong)

/-- 'packsaddlelaw03.CborHolds': WHATEVER THE INPUT: true; the input reads as it did. -/
def cborHoldsSpec : ChangeSpec := { name := "cborHolds", fn := fun _ => fun
  | [d1, d2, d3] => { results := [.lit (.bool true)], args := [d1, d2, d3] }
  | _ => none }
def cborHoldsRow : OpenClaim := { program := "ytjenohodgpmchaadoor", sum := "02521f0cda009925887692645396dd93803b86834a2ced65ed054ce187423aaf", func := "packsaddle/packsaddlelaw03.CborHolds", spec := "cborHolds", unfollowed := true, recurses := true, named := ["unicode/utf8.first", "unicode/utf8.acceptRanges"], loops := true, apart := false, laid := [("unicode/utf8.acceptRanges", laid_unicode_utf8_acceptRanges), ("unicode/utf8.first", laid_unicode_utf8_first)] }
def CborHoldsSaid : Prop := cborHoldsRow.holds Tryd.pinned (OpenSpec.ofChange cborHoldsSpec)

/-- ITS FALSE NEIGHBOUR: 'it returns false'. Refute it at one input. -/
def cborHoldsWrong : ChangeSpec := { name := "cborHolds", fn := fun _ => fun
  | [d1, d2, d3] => { results := [.lit (.bool false)], args := [d1, d2, d3] }
  | _ => none }
def CborHoldsWrongFalsely : Prop := cborHoldsRow.holds Tryd.pinned (OpenSpec.ofChange cborHoldsWrong)

/-- 'packsaddlelaw03.CborItems': WHATEVER THE INPUT: true; the input reads as it did. -/
def cborItemsSpec : ChangeSpec := { name := "cborItems", fn := fun _ => fun
  | [d] => { results := [.lit (.bool true)], args := [d] }
  | _ => none }
def cborItemsRow : OpenClaim := { program := "ytjenohodgpmchaadoor", sum := "02521f0cda009925887692645396dd93803b86834a2ced65ed054ce187423aaf", func := "packsaddle/packsaddlelaw03.CborItems", spec := "cborItems", unfollowed := true, recurses := true, named := ["unicode/utf8.first", "unicode/utf8.acceptRanges"], loops := true, apart := false, laid := [("unicode/utf8.acceptRanges", laid_unicode_utf8_acceptRanges), ("unicode/utf8.first", laid_unicode_utf8_first)] }
def CborItemsSaid : Prop := cborItemsRow.holds Tryd.pinned (OpenSpec.ofChange cborItemsSpec)

/-- ITS FALSE NEIGHBOUR: 'it returns false'. Refute it at one input. -/
def cborItemsWrong : ChangeSpec := { name := "cborItems", fn := fun _ => fun
  | [d] => { results := [.lit (.bool false)], args := [d] }
  | _ => none }
def CborItemsWrongFalsely : Prop := cborItemsRow.holds Tryd.pinned (OpenSpec.ofChange cborItemsWrong)

/-- 'packsaddlelaw03.CborSame': WHATEVER THE INPUT: true; the input reads as it did. -/
def cborSameSpec : ChangeSpec := { name := "cborSame", fn := fun _ => fun
  | [d1, d2, d3] => { results := [.lit (.bool true)], args := [d1, d2, d3] }
  | _ => none }
def cborSameRow : OpenClaim := { program := "ytjenohodgpmchaadoor", sum := "02521f0cda009925887692645396dd93803b86834a2ced65ed054ce187423aaf", func := "packsaddle/packsaddlelaw03.CborSame", spec := "cborSame", unfollowed := true, recurses := true, named := ["unicode/utf8.first", "unicode/utf8.acceptRanges"], loops := true, apart := false, laid := [("unicode/utf8.acceptRanges", laid_unicode_utf8_acceptRanges), ("unicode/utf8.first", laid_unicode_utf8_first)] }
def CborSameSaid : Prop := cborSameRow.holds Tryd.pinned (OpenSpec.ofChange cborSameSpec)

/-- ITS FALSE NEIGHBOUR: 'it returns false'. Refute it at one input. -/
def cborSameWrong : ChangeSpec := { name := "cborSame", fn := fun _ => fun
  | [d1, d2, d3] => { results := [.lit (.bool false)], args := [d1, d2, d3] }
  | _ => none }
def CborSameWrongFalsely : Prop := cborSameRow.holds Tryd.pinned (OpenSpec.ofChange cborSameWrong)

/- THE SECOND FORM. 'bulk': how many values and letters a reading holds, each counted each time it is reached (what is shared counts as often as it is met; a slice's spare places count too). A statement '..UptoSaid' is the law's where the arguments, and the package variables that the reading takes, are together of bulk at most 1048576: NARROWER than '..Said'. Prove '..Said' where nothing that the law and all that it calls make is longer than what came in: it says more and counts as full. Else prove '..UptoSaid'. A law counts once. -/
mutual
def uptoBulk {H : Type} : DataW H → Nat
  | .lit (.string bytes) => bytes.length + 1
  | .lit _ => 1
  | .nil => 1
  | .ptr d => uptoBulk d + 1
  | .slice elems spare => uptoBulkAll elems + uptoBulkAll spare + 1
  | .agg parts => uptoBulkAll parts + 1
  | .iface _ d => uptoBulk d + 1
  | .map entries => uptoBulkEntries entries + 1
  | .held _ => 1
def uptoBulkAll {H : Type} : List (DataW H) → Nat
  | [] => 0
  | d :: r => uptoBulk d + uptoBulkAll r
def uptoBulkEntries {H : Type} : List (Lit × DataW H) → Nat
  | [] => 0
  | x :: r => uptoBulkEntry x + uptoBulkEntries r
def uptoBulkEntry {H : Type} : Lit × DataW H → Nat
  | (.string bytes, d) => bytes.length + uptoBulk d + 1
  | (_, d) => uptoBulk d + 1
 end
def uptoSmall : (H : Type) → List (DataW H) → Bool := fun _ ds => decide (uptoBulkAll ds ≤ 1048576)
def OpenSpec.upto (s : _root_.Go.ChangeSpec) : _root_.Go.OpenSpec := { _root_.Go.OpenSpec.ofChange s with cond := some uptoSmall }

/-- 'packsaddlelaw03.CborBytes', WHERE WHAT IT READS IS OF BULK AT MOST 1048576: true; the input reads as it did. -/
def cborBytesUptoRow : OpenClaim := { program := "ytjenohodgpmchaadoor", sum := "02521f0cda009925887692645396dd93803b86834a2ced65ed054ce187423aaf", func := "packsaddle/packsaddlelaw03.CborBytes", spec := "cborBytes", unfollowed := true, recurses := true, named := ["unicode/utf8.first", "unicode/utf8.acceptRanges"], apart := false, laid := [("unicode/utf8.acceptRanges", laid_unicode_utf8_acceptRanges), ("unicode/utf8.first", laid_unicode_utf8_first)], narrowed := true }
def CborBytesUptoSaid : Prop := cborBytesUptoRow.holds Tryd.pinned (OpenSpec.upto cborBytesSpec)

/-- 'packsaddlelaw03.CborBounds', WHERE WHAT IT READS IS OF BULK AT MOST 1048576: true; the input reads as it did. -/
def cborBoundsUptoRow : OpenClaim := { program := "ytjenohodgpmchaadoor", sum := "02521f0cda009925887692645396dd93803b86834a2ced65ed054ce187423aaf", func := "packsaddle/packsaddlelaw03.CborBounds", spec := "cborBounds", unfollowed := true, recurses := true, named := ["unicode/utf8.first", "unicode/utf8.acceptRanges"], apart := false, laid := [("unicode/utf8.acceptRanges", laid_unicode_utf8_acceptRanges), ("unicode/utf8.first", laid_unicode_utf8_first)], narrowed := true }
def CborBoundsUptoSaid : Prop := cborBoundsUptoRow.holds Tryd.pinned (OpenSpec.upto cborBoundsSpec)

/-- 'packsaddlelaw03.CborHolds', WHERE WHAT IT READS IS OF BULK AT MOST 1048576: true; the input reads as it did. -/
def cborHoldsUptoRow : OpenClaim := { program := "ytjenohodgpmchaadoor", sum := "02521f0cda009925887692645396dd93803b86834a2ced65ed054ce187423aaf", func := "packsaddle/packsaddlelaw03.CborHolds", spec := "cborHolds", unfollowed := true, recurses := true, named := ["unicode/utf8.first", "unicode/utf8.acceptRanges"], loops := true, apart := false, laid := [("unicode/utf8.acceptRanges", laid_unicode_utf8_acceptRanges), ("unicode/utf8.first", laid_unicode_utf8_first)], narrowed := true }
def CborHoldsUptoSaid : Prop := cborHoldsUptoRow.holds Tryd.pinned (OpenSpec.upto cborHoldsSpec)

/-- 'packsaddlelaw03.CborItems', WHERE WHAT IT READS IS OF BULK AT MOST 1048576: true; the input reads as it did. -/
def cborItemsUptoRow : OpenClaim := { program := "ytjenohodgpmchaadoor", sum := "02521f0cda009925887692645396dd93803b86834a2ced65ed054ce187423aaf", func := "packsaddle/packsaddlelaw03.CborItems", spec := "cborItems", unfollowed := true, recurses := true, named := ["unicode/utf8.first", "unicode/utf8.acceptRanges"], loops := true, apart := false, laid := [("unicode/utf8.acceptRanges", laid_unicode_utf8_acceptRanges), ("unicode/utf8.first", laid_unicode_utf8_first)], narrowed := true }
def CborItemsUptoSaid : Prop := cborItemsUptoRow.holds Tryd.pinned (OpenSpec.upto cborItemsSpec)

/-- 'packsaddlelaw03.CborSame', WHERE WHAT IT READS IS OF BULK AT MOST 1048576: true; the input reads as it did. -/
def cborSameUptoRow : OpenClaim := { program := "ytjenohodgpmchaadoor", sum := "02521f0cda009925887692645396dd93803b86834a2ced65ed054ce187423aaf", func := "packsaddle/packsaddlelaw03.CborSame", spec := "cborSame", unfollowed := true, recurses := true, named := ["unicode/utf8.first", "unicode/utf8.acceptRanges"], loops := true, apart := false, laid := [("unicode/utf8.acceptRanges", laid_unicode_utf8_acceptRanges), ("unicode/utf8.first", laid_unicode_utf8_first)], narrowed := true }
def CborSameUptoSaid : Prop := cborSameUptoRow.holds Tryd.pinned (OpenSpec.upto cborSameSpec)

end Rows
end Go.Proofs.YtjenohodgpmchaaDoor
