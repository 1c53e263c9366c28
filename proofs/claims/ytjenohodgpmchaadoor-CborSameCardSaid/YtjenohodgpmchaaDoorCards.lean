/-
  DERIVED. GIVEN WITH THE SEED: THE CARDS: each row of YtjenohodgpmchaaDoorRows.lean that lists a variable, with what it lists TIED to the program's text (the seventh form; the later family's looks); each row that meets fmt, with fmt's text TOLD by the authors' own Lean function (tested against real Go, not proved from fmt's source: count such statements apart). THE CARD IS WHAT COUNTS. Prove the row's statement (the work); the ties are given (YtjenohodgpmchaaDoorTie.lean); close each card by the builder's one call (the guide's Derived/Test/ToyasCard.lean, 'card_holds'). Laid BY PROGRAM, IN A SANDBOX (cutbox-door.mjs). By AI agents, Wed Nov 11 2026. No macro, syntax, notation, axiom, sorry.
-/
import Derived.Test.YtjenohodgpmchaaDoorRows
import GoSem.ClaimSeven
namespace Go.Proofs.YtjenohodgpmchaaDoor
namespace Rows

/-- THE TIED CARD OF 'packsaddlelaw03.CborBytes'. -/
def cborBytesCard : Claim7 := { stood := { row := cborBytesRow, standIns := [], harness := (true, "0ece3b67bcc1c0921f4ca99338b3de9fb5b1d54749c680f8d782d7ca69802733"), looks := true }, kinds := [], alts := [], laidByText := true, laidKinds := [.data, .pinned], laidTests := true, laidLooks := .later }
def CborBytesCardSaid : Prop := Claim7.holds Tryd.pinned (.plain (OpenSpec.ofChange cborBytesSpec)) cborBytesCard

/-- THE TIED CARD OF 'packsaddlelaw03.CborBounds'. -/
def cborBoundsCard : Claim7 := { stood := { row := cborBoundsRow, standIns := [], harness := (true, "0ece3b67bcc1c0921f4ca99338b3de9fb5b1d54749c680f8d782d7ca69802733"), looks := true }, kinds := [], alts := [], laidByText := true, laidKinds := [.data, .pinned], laidTests := true, laidLooks := .later }
def CborBoundsCardSaid : Prop := Claim7.holds Tryd.pinned (.plain (OpenSpec.ofChange cborBoundsSpec)) cborBoundsCard

/-- THE TIED CARD OF 'packsaddlelaw03.CborHolds'. -/
def cborHoldsCard : Claim7 := { stood := { row := cborHoldsRow, standIns := [], harness := (true, "0ece3b67bcc1c0921f4ca99338b3de9fb5b1d54749c680f8d782d7ca69802733"), looks := true }, kinds := [], alts := [], laidByText := true, laidKinds := [.data, .pinned], laidTests := true, laidLooks := .later }
def CborHoldsCardSaid : Prop := Claim7.holds Tryd.pinned (.plain (OpenSpec.ofChange cborHoldsSpec)) cborHoldsCard

/-- THE TIED CARD OF 'packsaddlelaw03.CborItems'. -/
def cborItemsCard : Claim7 := { stood := { row := cborItemsRow, standIns := [], harness := (true, "0ece3b67bcc1c0921f4ca99338b3de9fb5b1d54749c680f8d782d7ca69802733"), looks := true }, kinds := [], alts := [], laidByText := true, laidKinds := [.data, .pinned], laidTests := true, laidLooks := .later }
def CborItemsCardSaid : Prop := Claim7.holds Tryd.pinned (.plain (OpenSpec.ofChange cborItemsSpec)) cborItemsCard

/-- THE TIED CARD OF 'packsaddlelaw03.CborSame'. -/
def cborSameCard : Claim7 := { stood := { row := cborSameRow, standIns := [], harness := (true, "0ece3b67bcc1c0921f4ca99338b3de9fb5b1d54749c680f8d782d7ca69802733"), looks := true }, kinds := [], alts := [], laidByText := true, laidKinds := [.data, .pinned], laidTests := true, laidLooks := .later }
def CborSameCardSaid : Prop := Claim7.holds Tryd.pinned (.plain (OpenSpec.ofChange cborSameSpec)) cborSameCard

/-- THE SECOND FORM's CARD OF 'packsaddlelaw03.CborBytes'. -/
def cborBytesUptoCard : Claim7 := { stood := { row := cborBytesUptoRow, standIns := [], harness := (true, "0ece3b67bcc1c0921f4ca99338b3de9fb5b1d54749c680f8d782d7ca69802733"), looks := true }, kinds := [], alts := [], laidByText := true, laidKinds := [.data, .pinned], laidTests := true, laidLooks := .later }
def CborBytesUptoCardSaid : Prop := Claim7.holds Tryd.pinned (.plain (OpenSpec.upto cborBytesSpec)) cborBytesUptoCard

/-- THE SECOND FORM's CARD OF 'packsaddlelaw03.CborBounds'. -/
def cborBoundsUptoCard : Claim7 := { stood := { row := cborBoundsUptoRow, standIns := [], harness := (true, "0ece3b67bcc1c0921f4ca99338b3de9fb5b1d54749c680f8d782d7ca69802733"), looks := true }, kinds := [], alts := [], laidByText := true, laidKinds := [.data, .pinned], laidTests := true, laidLooks := .later }
def CborBoundsUptoCardSaid : Prop := Claim7.holds Tryd.pinned (.plain (OpenSpec.upto cborBoundsSpec)) cborBoundsUptoCard

/-- THE SECOND FORM's CARD OF 'packsaddlelaw03.CborHolds'. -/
def cborHoldsUptoCard : Claim7 := { stood := { row := cborHoldsUptoRow, standIns := [], harness := (true, "0ece3b67bcc1c0921f4ca99338b3de9fb5b1d54749c680f8d782d7ca69802733"), looks := true }, kinds := [], alts := [], laidByText := true, laidKinds := [.data, .pinned], laidTests := true, laidLooks := .later }
def CborHoldsUptoCardSaid : Prop := Claim7.holds Tryd.pinned (.plain (OpenSpec.upto cborHoldsSpec)) cborHoldsUptoCard

/-- THE SECOND FORM's CARD OF 'packsaddlelaw03.CborItems'. -/
def cborItemsUptoCard : Claim7 := { stood := { row := cborItemsUptoRow, standIns := [], harness := (true, "0ece3b67bcc1c0921f4ca99338b3de9fb5b1d54749c680f8d782d7ca69802733"), looks := true }, kinds := [], alts := [], laidByText := true, laidKinds := [.data, .pinned], laidTests := true, laidLooks := .later }
def CborItemsUptoCardSaid : Prop := Claim7.holds Tryd.pinned (.plain (OpenSpec.upto cborItemsSpec)) cborItemsUptoCard

/-- THE SECOND FORM's CARD OF 'packsaddlelaw03.CborSame'. -/
def cborSameUptoCard : Claim7 := { stood := { row := cborSameUptoRow, standIns := [], harness := (true, "0ece3b67bcc1c0921f4ca99338b3de9fb5b1d54749c680f8d782d7ca69802733"), looks := true }, kinds := [], alts := [], laidByText := true, laidKinds := [.data, .pinned], laidTests := true, laidLooks := .later }
def CborSameUptoCardSaid : Prop := Claim7.holds Tryd.pinned (.plain (OpenSpec.upto cborSameSpec)) cborSameUptoCard
end Rows
end Go.Proofs.YtjenohodgpmchaaDoor
