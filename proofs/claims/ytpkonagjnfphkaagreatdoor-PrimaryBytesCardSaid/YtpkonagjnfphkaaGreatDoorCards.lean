/-
  DERIVED. GIVEN WITH THE SEED: THE CARDS: each row of YtpkonagjnfphkaaGreatDoorRows.lean that lists a variable, with what it lists TIED to the program's text (the seventh form; the later family's looks); each row that meets fmt, with fmt's text TOLD by the authors' own Lean function (tested against real Go, not proved from fmt's source: count such statements apart). THE CARD IS WHAT COUNTS. Prove the row's statement (the work); the ties are given (YtpkonagjnfphkaaGreatDoorTie.lean); close each card by the builder's one call (the guide's Derived/Test/ToyasCard.lean, 'card_holds'). Laid BY PROGRAM, IN A SANDBOX (cutbox-door.mjs). By AI agents, Wed Nov 11 2026. No macro, syntax, notation, axiom, sorry.
-/
import Derived.Test.YtpkonagjnfphkaaGreatDoorRows
import GoSem.ClaimSeven
namespace Go.Proofs.YtpkonagjnfphkaaGreatDoor
namespace Rows

/-- THE TIED CARD OF 'packsaddlelaw06.PrimaryTells'. -/
def primaryTellsCard : Claim7 := { stood := { row := primaryTellsRow, standIns := [], harness := (true, "470b2c42ec1d750a811b4303a4b82cb10a471d475c6c98540e3c9cb4d197a111"), looks := true }, kinds := [], alts := [], laidByText := true, laidKinds := [.data, .pinned], laidTests := true, laidLooks := .later }
def PrimaryTellsCardSaid : Prop := Claim7.holds Tryz.pinned (.plain (OpenSpec.ofChange primaryTellsSpec)) primaryTellsCard

/-- THE TIED CARD OF 'packsaddlelaw06.PrimaryBlocks'. -/
def primaryBlocksCard : Claim7 := { stood := { row := primaryBlocksRow, standIns := [], harness := (true, "470b2c42ec1d750a811b4303a4b82cb10a471d475c6c98540e3c9cb4d197a111"), looks := true }, kinds := [], alts := [], laidByText := true, laidKinds := [.data, .pinned], laidTests := true, laidLooks := .later }
def PrimaryBlocksCardSaid : Prop := Claim7.holds Tryz.pinned (.plain (OpenSpec.ofChange primaryBlocksSpec)) primaryBlocksCard

/-- THE TIED CARD OF 'packsaddlelaw06.PrimaryBytes'. -/
def primaryBytesCard : Claim7 := { stood := { row := primaryBytesRow, standIns := [], harness := (true, "470b2c42ec1d750a811b4303a4b82cb10a471d475c6c98540e3c9cb4d197a111"), looks := true }, kinds := [], alts := [], laidByText := true, laidKinds := [.data, .pinned], laidTests := true, laidLooks := .later }
def PrimaryBytesCardSaid : Prop := Claim7.holds Tryz.pinned (.plain (OpenSpec.ofChange primaryBytesSpec)) primaryBytesCard

/-- THE TIED CARD OF 'packsaddlelaw06.PrimaryItems'. -/
def primaryItemsCard : Claim7 := { stood := { row := primaryItemsRow, standIns := [], harness := (true, "470b2c42ec1d750a811b4303a4b82cb10a471d475c6c98540e3c9cb4d197a111"), looks := true }, kinds := [], alts := [], laidByText := true, laidKinds := [.data, .pinned], laidTests := true, laidLooks := .later }
def PrimaryItemsCardSaid : Prop := Claim7.holds Tryz.pinned (.plain (OpenSpec.ofChange primaryItemsSpec)) primaryItemsCard

/-- THE TIED CARD OF 'packsaddlelaw06.PrimaryHolds'. -/
def primaryHoldsCard : Claim7 := { stood := { row := primaryHoldsRow, standIns := [], harness := (true, "470b2c42ec1d750a811b4303a4b82cb10a471d475c6c98540e3c9cb4d197a111"), looks := true }, kinds := [], alts := [], laidByText := true, laidKinds := [.data, .pinned], laidTests := true, laidLooks := .later }
def PrimaryHoldsCardSaid : Prop := Claim7.holds Tryz.pinned (.plain (OpenSpec.ofChange primaryHoldsSpec)) primaryHoldsCard

/-- THE SECOND FORM's CARD OF 'packsaddlelaw06.PrimaryTells'. -/
def primaryTellsUptoCard : Claim7 := { stood := { row := primaryTellsUptoRow, standIns := [], harness := (true, "470b2c42ec1d750a811b4303a4b82cb10a471d475c6c98540e3c9cb4d197a111"), looks := true }, kinds := [], alts := [], laidByText := true, laidKinds := [.data, .pinned], laidTests := true, laidLooks := .later }
def PrimaryTellsUptoCardSaid : Prop := Claim7.holds Tryz.pinned (.plain (OpenSpec.upto primaryTellsSpec)) primaryTellsUptoCard

/-- THE SECOND FORM's CARD OF 'packsaddlelaw06.PrimaryBlocks'. -/
def primaryBlocksUptoCard : Claim7 := { stood := { row := primaryBlocksUptoRow, standIns := [], harness := (true, "470b2c42ec1d750a811b4303a4b82cb10a471d475c6c98540e3c9cb4d197a111"), looks := true }, kinds := [], alts := [], laidByText := true, laidKinds := [.data, .pinned], laidTests := true, laidLooks := .later }
def PrimaryBlocksUptoCardSaid : Prop := Claim7.holds Tryz.pinned (.plain (OpenSpec.upto primaryBlocksSpec)) primaryBlocksUptoCard

/-- THE SECOND FORM's CARD OF 'packsaddlelaw06.PrimaryBytes'. -/
def primaryBytesUptoCard : Claim7 := { stood := { row := primaryBytesUptoRow, standIns := [], harness := (true, "470b2c42ec1d750a811b4303a4b82cb10a471d475c6c98540e3c9cb4d197a111"), looks := true }, kinds := [], alts := [], laidByText := true, laidKinds := [.data, .pinned], laidTests := true, laidLooks := .later }
def PrimaryBytesUptoCardSaid : Prop := Claim7.holds Tryz.pinned (.plain (OpenSpec.upto primaryBytesSpec)) primaryBytesUptoCard

/-- THE SECOND FORM's CARD OF 'packsaddlelaw06.PrimaryItems'. -/
def primaryItemsUptoCard : Claim7 := { stood := { row := primaryItemsUptoRow, standIns := [], harness := (true, "470b2c42ec1d750a811b4303a4b82cb10a471d475c6c98540e3c9cb4d197a111"), looks := true }, kinds := [], alts := [], laidByText := true, laidKinds := [.data, .pinned], laidTests := true, laidLooks := .later }
def PrimaryItemsUptoCardSaid : Prop := Claim7.holds Tryz.pinned (.plain (OpenSpec.upto primaryItemsSpec)) primaryItemsUptoCard

/-- THE SECOND FORM's CARD OF 'packsaddlelaw06.PrimaryHolds'. -/
def primaryHoldsUptoCard : Claim7 := { stood := { row := primaryHoldsUptoRow, standIns := [], harness := (true, "470b2c42ec1d750a811b4303a4b82cb10a471d475c6c98540e3c9cb4d197a111"), looks := true }, kinds := [], alts := [], laidByText := true, laidKinds := [.data, .pinned], laidTests := true, laidLooks := .later }
def PrimaryHoldsUptoCardSaid : Prop := Claim7.holds Tryz.pinned (.plain (OpenSpec.upto primaryHoldsSpec)) primaryHoldsUptoCard
end Rows
end Go.Proofs.YtpkonagjnfphkaaGreatDoor
