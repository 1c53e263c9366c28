/-
  NARROWER THAN 'FOR EVERY INPUT', by the rows' own cells (each row's printed sentence says how): PrimaryTells: laid · PrimaryBlocks: laid · PrimaryBytes: laid · PrimaryItems: loops, laid · PrimaryHolds: laid.
  DERIVED. THE GIVEN ROWS OF THIS SEAT. 5 by the template 'for every input the law returns true; each argument reads behind the call as it read before'; 0 by the template 'total and deterministic' (their statements: YtpkonagjnfphkaaGreatDoorTotals.lean).
  GIVEN WITH THE SEED: the statements are not yours to turn. If you find one false, say at which input.
  Laid BY PROGRAM, IN A SANDBOX (cutbox-rows.mjs): the forced cells as the released guide's own fill.sh prints them over the translation fd26ddc07ff618de… (all of the seat's roots in one cut). By AI agents, Wed Nov 11 2026. No macro, syntax, notation, axiom, sorry.
-/
import Derived.Test.YtpkonagjnfphkaaGreatDoorChecked
import GoSem.PinnedTables
import GoSem.Claim
import GoSem.ClaimJoined
import GoSem.ClaimMapViews
import Derived.JoinedTies
import Derived.KernelRfl
namespace Go.Proofs.YtpkonagjnfphkaaGreatDoor
/- THE CELL 'sum', in the pinned program and in every row, IS THE sha256 OF THE DUMP (.gsa) THAT YtpkonagjnfphkaaGreatDoorProg.lean LOADS. Nothing in Lean hashes anything: it is a label: what it is worth is what the hold of that sum in a sandbox is worth. -/
noncomputable def Tryz.pinned : Pinned := { name := "ytpkonagjnfphkaagreatdoor", sum := "fd26ddc07ff618de148aaa3b95b008931dc96cc7005085cd2420244691b87faa", checked := Tryz.checked }
namespace Rows
def none {H : Type} : Left H := { results := [], args := [] }

/- WHAT THE LISTED PACKAGE-LEVEL VARIABLES READ AS WHEN THE CALL BEGINS. Each datum BY PROGRAM (the guide's laid-datum.mjs) off the statement by which the dump's own 'gosem.cut.vars' lays the variable. In a bare row this is a premise. The card (YtpkonagjnfphkaaGreatDoorCards.lean) ties it to the program's text. -/
def laid_unicode_utf8_acceptRanges {H : Type} : DataW H := .agg [.agg [.lit (.int .u8 128), .lit (.int .u8 191)], .agg [.lit (.int .u8 160), .lit (.int .u8 191)], .agg [.lit (.int .u8 128), .lit (.int .u8 159)], .agg [.lit (.int .u8 144), .lit (.int .u8 191)], .agg [.lit (.int .u8 128), .lit (.int .u8 143)], .agg [.lit (.int .u8 0), .lit (.int .u8 0)], .agg [.lit (.int .u8 0), .lit (.int .u8 0)], .agg [.lit (.int .u8 0), .lit (.int .u8 0)], .agg [.lit (.int .u8 0), .lit (.int .u8 0)], .agg [.lit (.int .u8 0), .lit (.int .u8 0)], .agg [.lit (.int .u8 0), .lit (.int .u8 0)], .agg [.lit (.int .u8 0), .lit (.int .u8 0)], .agg [.lit (.int .u8 0), .lit (.int .u8 0)], .agg [.lit (.int .u8 0), .lit (.int .u8 0)], .agg [.lit (.int .u8 0), .lit (.int .u8 0)], .agg [.lit (.int .u8 0), .lit (.int .u8 0)]]
/-- One of Go's own tables, pinned by name: the form's constant. -/
def laid_unicode_utf8_first : DataW Unit := Go.Pinned.utf8First

/-- 'packsaddlelaw06.PrimaryTells': WHATEVER THE INPUT: true; the input reads as it did. -/
def primaryTellsSpec : ChangeSpec := { name := "primaryTells", fn := fun _ => fun
  | [d1, d2, d3] => { results := [.lit (.bool true)], args := [d1, d2, d3] }
  | _ => none }
def primaryTellsRow : OpenClaim := { program := "ytpkonagjnfphkaagreatdoor", sum := "fd26ddc07ff618de148aaa3b95b008931dc96cc7005085cd2420244691b87faa", func := "packsaddle/packsaddlelaw06.PrimaryTells", spec := "primaryTells", unfollowed := true, recurses := true, named := ["unicode/utf8.first", "unicode/utf8.acceptRanges"], apart := false, laid := [("unicode/utf8.acceptRanges", laid_unicode_utf8_acceptRanges), ("unicode/utf8.first", laid_unicode_utf8_first)] }
def PrimaryTellsSaid : Prop := primaryTellsRow.holds Tryz.pinned (OpenSpec.ofChange primaryTellsSpec)

/-- ITS FALSE NEIGHBOUR: 'it returns false'. Refute it at one input. -/
def primaryTellsWrong : ChangeSpec := { name := "primaryTells", fn := fun _ => fun
  | [d1, d2, d3] => { results := [.lit (.bool false)], args := [d1, d2, d3] }
  | _ => none }
def PrimaryTellsWrongFalsely : Prop := primaryTellsRow.holds Tryz.pinned (OpenSpec.ofChange primaryTellsWrong)

/-- 'packsaddlelaw06.PrimaryBlocks': WHATEVER THE INPUT: true; the input reads as it did. -/
def primaryBlocksSpec : ChangeSpec := { name := "primaryBlocks", fn := fun _ => fun
  | [d] => { results := [.lit (.bool true)], args := [d] }
  | _ => none }
def primaryBlocksRow : OpenClaim := { program := "ytpkonagjnfphkaagreatdoor", sum := "fd26ddc07ff618de148aaa3b95b008931dc96cc7005085cd2420244691b87faa", func := "packsaddle/packsaddlelaw06.PrimaryBlocks", spec := "primaryBlocks", unfollowed := true, recurses := true, named := ["unicode/utf8.first", "unicode/utf8.acceptRanges"], apart := false, laid := [("unicode/utf8.acceptRanges", laid_unicode_utf8_acceptRanges), ("unicode/utf8.first", laid_unicode_utf8_first)] }
def PrimaryBlocksSaid : Prop := primaryBlocksRow.holds Tryz.pinned (OpenSpec.ofChange primaryBlocksSpec)

/-- ITS FALSE NEIGHBOUR: 'it returns false'. Refute it at one input. -/
def primaryBlocksWrong : ChangeSpec := { name := "primaryBlocks", fn := fun _ => fun
  | [d] => { results := [.lit (.bool false)], args := [d] }
  | _ => none }
def PrimaryBlocksWrongFalsely : Prop := primaryBlocksRow.holds Tryz.pinned (OpenSpec.ofChange primaryBlocksWrong)

/-- 'packsaddlelaw06.PrimaryBytes': WHATEVER THE INPUT: true; the input reads as it did. -/
def primaryBytesSpec : ChangeSpec := { name := "primaryBytes", fn := fun _ => fun
  | [d] => { results := [.lit (.bool true)], args := [d] }
  | _ => none }
def primaryBytesRow : OpenClaim := { program := "ytpkonagjnfphkaagreatdoor", sum := "fd26ddc07ff618de148aaa3b95b008931dc96cc7005085cd2420244691b87faa", func := "packsaddle/packsaddlelaw06.PrimaryBytes", spec := "primaryBytes", unfollowed := true, recurses := true, named := ["unicode/utf8.first", "unicode/utf8.acceptRanges"], apart := false, laid := [("unicode/utf8.acceptRanges", laid_unicode_utf8_acceptRanges), ("unicode/utf8.first", laid_unicode_utf8_first)] }
def PrimaryBytesSaid : Prop := primaryBytesRow.holds Tryz.pinned (OpenSpec.ofChange primaryBytesSpec)

/-- ITS FALSE NEIGHBOUR: 'it returns false'. Refute it at one input. -/
def primaryBytesWrong : ChangeSpec := { name := "primaryBytes", fn := fun _ => fun
  | [d] => { results := [.lit (.bool false)], args := [d] }
  | _ => none }
def PrimaryBytesWrongFalsely : Prop := primaryBytesRow.holds Tryz.pinned (OpenSpec.ofChange primaryBytesWrong)

/-- 'packsaddlelaw06.PrimaryItems': WHATEVER THE INPUT: true; the input reads as it did. -/
def primaryItemsSpec : ChangeSpec := { name := "primaryItems", fn := fun _ => fun
  | [d] => { results := [.lit (.bool true)], args := [d] }
  | _ => none }
def primaryItemsRow : OpenClaim := { program := "ytpkonagjnfphkaagreatdoor", sum := "fd26ddc07ff618de148aaa3b95b008931dc96cc7005085cd2420244691b87faa", func := "packsaddle/packsaddlelaw06.PrimaryItems", spec := "primaryItems", unfollowed := true, recurses := true, named := ["unicode/utf8.first", "unicode/utf8.acceptRanges"], loops := true, apart := false, laid := [("unicode/utf8.acceptRanges", laid_unicode_utf8_acceptRanges), ("unicode/utf8.first", laid_unicode_utf8_first)] }
def PrimaryItemsSaid : Prop := primaryItemsRow.holds Tryz.pinned (OpenSpec.ofChange primaryItemsSpec)

/-- ITS FALSE NEIGHBOUR: 'it returns false'. Refute it at one input. -/
def primaryItemsWrong : ChangeSpec := { name := "primaryItems", fn := fun _ => fun
  | [d] => { results := [.lit (.bool false)], args := [d] }
  | _ => none }
def PrimaryItemsWrongFalsely : Prop := primaryItemsRow.holds Tryz.pinned (OpenSpec.ofChange primaryItemsWrong)

/-- 'packsaddlelaw06.PrimaryHolds': WHATEVER THE INPUT: true; the input reads as it did. -/
def primaryHoldsSpec : ChangeSpec := { name := "primaryHolds", fn := fun _ => fun
  | [d1, d2] => { results := [.lit (.bool true)], args := [d1, d2] }
  | _ => none }
def primaryHoldsRow : OpenClaim := { program := "ytpkonagjnfphkaagreatdoor", sum := "fd26ddc07ff618de148aaa3b95b008931dc96cc7005085cd2420244691b87faa", func := "packsaddle/packsaddlelaw06.PrimaryHolds", spec := "primaryHolds", unfollowed := true, recurses := true, named := ["unicode/utf8.first", "unicode/utf8.acceptRanges"], apart := false, laid := [("unicode/utf8.acceptRanges", laid_unicode_utf8_acceptRanges), ("unicode/utf8.first", laid_unicode_utf8_first)] }
def PrimaryHoldsSaid : Prop := primaryHoldsRow.holds Tryz.pinned (OpenSpec.ofChange primaryHoldsSpec)

/-- ITS FALSE NEIGHBOUR: 'it returns false'. Refute it at one input. -/
def primaryHoldsWrong : ChangeSpec := { name := "primaryHolds", fn := fun _ => fun
  | [d1, d2] => { results := [.lit (.bool false)], args := [d1, d2] }
  | _ => none }
def PrimaryHoldsWrongFalsely : Prop := primaryHoldsRow.holds Tryz.pinned (OpenSpec.ofChange primaryHoldsWrong)

/- THE SECOND FORM. 'bulk': how many values and letters a reading holds, each counted each time it is reached (what is shared counts as often as it is met; a slice's spare places count too). A statement '..UptoSaid' is the law's where the arguments, and the package variables that the reading takes, are together of bulk at most 1048576: NARROWER than '..Said'. Prove '..Said' where nothing that the law and all that it calls make is longer than what came in: it says more and counts as full. Else prove '..UptoSaid'. A law counts once. -/
mutual
def uptoBulk {H : Type} : DataW H → Nat
  | .lit (.string bytes) => bytes.length + 1
  | .lit _ => 1
  | .nil => 1
  | .ptr d => uptoBulk d + 1
  | .slice elems spare => uptoBulkAll elems + uptoBulkAll spare + 1
  | .agg parts => uptoBulkAll parts + 1
  | .iface _ d => uptoBulk d + 1
  | .map entries => uptoBulkEntries entries + 1
  | .held _ => 1
def uptoBulkAll {H : Type} : List (DataW H) → Nat
  | [] => 0
  | d :: r => uptoBulk d + uptoBulkAll r
def uptoBulkEntries {H : Type} : List (Lit × DataW H) → Nat
  | [] => 0
  | x :: r => uptoBulkEntry x + uptoBulkEntries r
def uptoBulkEntry {H : Type} : Lit × DataW H → Nat
  | (.string bytes, d) => bytes.length + uptoBulk d + 1
  | (_, d) => uptoBulk d + 1
 end
def uptoSmall : (H : Type) → List (DataW H) → Bool := fun _ ds => decide (uptoBulkAll ds ≤ 1048576)
def OpenSpec.upto (s : _root_.Go.ChangeSpec) : _root_.Go.OpenSpec := { _root_.Go.OpenSpec.ofChange s with cond := some uptoSmall }

/-- 'packsaddlelaw06.PrimaryTells', WHERE WHAT IT READS IS OF BULK AT MOST 1048576: true; the input reads as it did. -/
def primaryTellsUptoRow : OpenClaim := { program := "ytpkonagjnfphkaagreatdoor", sum := "fd26ddc07ff618de148aaa3b95b008931dc96cc7005085cd2420244691b87faa", func := "packsaddle/packsaddlelaw06.PrimaryTells", spec := "primaryTells", unfollowed := true, recurses := true, named := ["unicode/utf8.first", "unicode/utf8.acceptRanges"], apart := false, laid := [("unicode/utf8.acceptRanges", laid_unicode_utf8_acceptRanges), ("unicode/utf8.first", laid_unicode_utf8_first)], narrowed := true }
def PrimaryTellsUptoSaid : Prop := primaryTellsUptoRow.holds Tryz.pinned (OpenSpec.upto primaryTellsSpec)

/-- 'packsaddlelaw06.PrimaryBlocks', WHERE WHAT IT READS IS OF BULK AT MOST 1048576: true; the input reads as it did. -/
def primaryBlocksUptoRow : OpenClaim := { program := "ytpkonagjnfphkaagreatdoor", sum := "fd26ddc07ff618de148aaa3b95b008931dc96cc7005085cd2420244691b87faa", func := "packsaddle/packsaddlelaw06.PrimaryBlocks", spec := "primaryBlocks", unfollowed := true, recurses := true, named := ["unicode/utf8.first", "unicode/utf8.acceptRanges"], apart := false, laid := [("unicode/utf8.acceptRanges", laid_unicode_utf8_acceptRanges), ("unicode/utf8.first", laid_unicode_utf8_first)], narrowed := true }
def PrimaryBlocksUptoSaid : Prop := primaryBlocksUptoRow.holds Tryz.pinned (OpenSpec.upto primaryBlocksSpec)

/-- 'packsaddlelaw06.PrimaryBytes', WHERE WHAT IT READS IS OF BULK AT MOST 1048576: true; the input reads as it did. -/
def primaryBytesUptoRow : OpenClaim := { program := "ytpkonagjnfphkaagreatdoor", sum := "fd26ddc07ff618de148aaa3b95b008931dc96cc7005085cd2420244691b87faa", func := "packsaddle/packsaddlelaw06.PrimaryBytes", spec := "primaryBytes", unfollowed := true, recurses := true, named := ["unicode/utf8.first", "unicode/utf8.acceptRanges"], apart := false, laid := [("unicode/utf8.acceptRanges", laid_unicode_utf8_acceptRanges), ("unicode/utf8.first", laid_unicode_utf8_first)], narrowed := true }
def PrimaryBytesUptoSaid : Prop := primaryBytesUptoRow.holds Tryz.pinned (OpenSpec.upto primaryBytesSpec)

/-- 'packsaddlelaw06.PrimaryItems', WHERE WHAT IT READS IS OF BULK AT MOST 1048576: true; the input reads as it did. -/
def primaryItemsUptoRow : OpenClaim := { program := "ytpkonagjnfphkaagreatdoor", sum := "fd26ddc07ff618de148aaa3b95b008931dc96cc7005085cd2420244691b87faa", func := "packsaddle/packsaddlelaw06.PrimaryItems", spec := "primaryItems", unfollowed := true, recurses := true, named := ["unicode/utf8.first", "unicode/utf8.acceptRanges"], loops := true, apart := false, laid := [("unicode/utf8.acceptRanges", laid_unicode_utf8_acceptRanges), ("unicode/utf8.first", laid_unicode_utf8_first)], narrowed := true }
def PrimaryItemsUptoSaid : Prop := primaryItemsUptoRow.holds Tryz.pinned (OpenSpec.upto primaryItemsSpec)

/-- 'packsaddlelaw06.PrimaryHolds', WHERE WHAT IT READS IS OF BULK AT MOST 1048576: true; the input reads as it did. -/
def primaryHoldsUptoRow : OpenClaim := { program := "ytpkonagjnfphkaagreatdoor", sum := "fd26ddc07ff618de148aaa3b95b008931dc96cc7005085cd2420244691b87faa", func := "packsaddle/packsaddlelaw06.PrimaryHolds", spec := "primaryHolds", unfollowed := true, recurses := true, named := ["unicode/utf8.first", "unicode/utf8.acceptRanges"], apart := false, laid := [("unicode/utf8.acceptRanges", laid_unicode_utf8_acceptRanges), ("unicode/utf8.first", laid_unicode_utf8_first)], narrowed := true }
def PrimaryHoldsUptoSaid : Prop := primaryHoldsUptoRow.holds Tryz.pinned (OpenSpec.upto primaryHoldsSpec)

end Rows
end Go.Proofs.YtpkonagjnfphkaaGreatDoor
