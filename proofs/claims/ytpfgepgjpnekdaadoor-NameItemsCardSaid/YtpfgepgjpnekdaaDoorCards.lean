/-
  DERIVED. GIVEN WITH THE SEED: THE CARDS: each row of YtpfgepgjpnekdaaDoorRows.lean that lists a variable, with what it lists TIED to the program's text (the seventh form; the later family's looks); each row that meets fmt, with fmt's text TOLD by the authors' own Lean function (tested against real Go, not proved from fmt's source: count such statements apart). THE CARD IS WHAT COUNTS. Prove the row's statement (the work); the ties are given (YtpfgepgjpnekdaaDoorTie.lean); close each card by the builder's one call (the guide's Derived/Test/ToyasCard.lean, 'card_holds'). Laid BY PROGRAM, IN A SANDBOX (cutbox-door.mjs). By AI agents, Wed Nov 11 2026. No macro, syntax, notation, axiom, sorry.
-/
import Derived.Test.YtpfgepgjpnekdaaDoorRows
import GoSem.ClaimSeven
namespace Go.Proofs.YtpfgepgjpnekdaaDoor
namespace Rows

/-- THE TIED CARD OF 'packsaddlelaw05.NameTexts'. -/
def nameTextsCard : Claim7 := { stood := { row := nameTextsRow, standIns := [], harness := (true, "039c7d746be2dc5819f6c862a3894bd3633ef9a7dee4d63b774f1987880c1757"), looks := true }, kinds := [], alts := [], laidByText := true, laidKinds := [.data, .data, .data, .sentinel, .sentinel], laidTests := true, laidLooks := .later }
def NameTextsCardSaid : Prop := Claim7.holds Tryd.pinned (.plain (OpenSpec.ofChange nameTextsSpec)) nameTextsCard

/-- THE TIED CARD OF 'packsaddlelaw05.NameHolds'. -/
def nameHoldsCard : Claim7 := { stood := { row := nameHoldsRow, standIns := [], harness := (true, "039c7d746be2dc5819f6c862a3894bd3633ef9a7dee4d63b774f1987880c1757"), looks := true }, kinds := [], alts := [], laidByText := true, laidKinds := [.data, .data, .data, .sentinel, .sentinel], laidTests := true, laidLooks := .later }
def NameHoldsCardSaid : Prop := Claim7.holds Tryd.pinned (.plain (OpenSpec.ofChange nameHoldsSpec)) nameHoldsCard

/-- THE TIED CARD OF 'packsaddlelaw05.NameNames'. -/
def nameNamesCard : Claim7 := { stood := { row := nameNamesRow, standIns := [], harness := (true, "039c7d746be2dc5819f6c862a3894bd3633ef9a7dee4d63b774f1987880c1757"), looks := true }, kinds := [], alts := [], laidByText := true, laidKinds := [.data, .data, .data, .sentinel, .sentinel], laidTests := true, laidLooks := .later }
def NameNamesCardSaid : Prop := Claim7.holds Tryd.pinned (.plain (OpenSpec.ofChange nameNamesSpec)) nameNamesCard

/-- THE TIED CARD OF 'packsaddlelaw05.NamePoints'. -/
def namePointsCard : Claim7 := { stood := { row := namePointsRow, standIns := [], harness := (true, "039c7d746be2dc5819f6c862a3894bd3633ef9a7dee4d63b774f1987880c1757"), looks := true }, kinds := [], alts := [], laidByText := true, laidKinds := [.data, .data, .data, .sentinel, .sentinel], laidTests := true, laidLooks := .later }
def NamePointsCardSaid : Prop := Claim7.holds Tryd.pinned (.plain (OpenSpec.ofChange namePointsSpec)) namePointsCard

/-- THE TIED CARD OF 'packsaddlelaw05.NameItems'. -/
def nameItemsCard : Claim7 := { stood := { row := nameItemsRow, standIns := [], harness := (true, "039c7d746be2dc5819f6c862a3894bd3633ef9a7dee4d63b774f1987880c1757"), looks := true }, kinds := [], alts := [], laidByText := true, laidKinds := [.data, .data, .data, .sentinel, .sentinel], laidTests := true, laidLooks := .later }
def NameItemsCardSaid : Prop := Claim7.holds Tryd.pinned (.plain (OpenSpec.ofChange nameItemsSpec)) nameItemsCard

/-- THE TIED CARD OF 'packsaddlelaw05.NameOrders'. -/
def nameOrdersCard : Claim7 := { stood := { row := nameOrdersRow, standIns := [], harness := (true, "039c7d746be2dc5819f6c862a3894bd3633ef9a7dee4d63b774f1987880c1757"), looks := true }, kinds := [], alts := [], laidByText := true, laidKinds := [.data, .data, .data, .sentinel, .sentinel], laidTests := true, laidLooks := .later }
def NameOrdersCardSaid : Prop := Claim7.holds Tryd.pinned (.plain (OpenSpec.ofChange nameOrdersSpec)) nameOrdersCard

/-- THE SECOND FORM's CARD OF 'packsaddlelaw05.NameTexts'. -/
def nameTextsUptoCard : Claim7 := { stood := { row := nameTextsUptoRow, standIns := [], harness := (true, "039c7d746be2dc5819f6c862a3894bd3633ef9a7dee4d63b774f1987880c1757"), looks := true }, kinds := [], alts := [], laidByText := true, laidKinds := [.data, .data, .data, .sentinel, .sentinel], laidTests := true, laidLooks := .later }
def NameTextsUptoCardSaid : Prop := Claim7.holds Tryd.pinned (.plain (OpenSpec.upto nameTextsSpec)) nameTextsUptoCard

/-- THE SECOND FORM's CARD OF 'packsaddlelaw05.NameHolds'. -/
def nameHoldsUptoCard : Claim7 := { stood := { row := nameHoldsUptoRow, standIns := [], harness := (true, "039c7d746be2dc5819f6c862a3894bd3633ef9a7dee4d63b774f1987880c1757"), looks := true }, kinds := [], alts := [], laidByText := true, laidKinds := [.data, .data, .data, .sentinel, .sentinel], laidTests := true, laidLooks := .later }
def NameHoldsUptoCardSaid : Prop := Claim7.holds Tryd.pinned (.plain (OpenSpec.upto nameHoldsSpec)) nameHoldsUptoCard

/-- THE SECOND FORM's CARD OF 'packsaddlelaw05.NameNames'. -/
def nameNamesUptoCard : Claim7 := { stood := { row := nameNamesUptoRow, standIns := [], harness := (true, "039c7d746be2dc5819f6c862a3894bd3633ef9a7dee4d63b774f1987880c1757"), looks := true }, kinds := [], alts := [], laidByText := true, laidKinds := [.data, .data, .data, .sentinel, .sentinel], laidTests := true, laidLooks := .later }
def NameNamesUptoCardSaid : Prop := Claim7.holds Tryd.pinned (.plain (OpenSpec.upto nameNamesSpec)) nameNamesUptoCard

/-- THE SECOND FORM's CARD OF 'packsaddlelaw05.NamePoints'. -/
def namePointsUptoCard : Claim7 := { stood := { row := namePointsUptoRow, standIns := [], harness := (true, "039c7d746be2dc5819f6c862a3894bd3633ef9a7dee4d63b774f1987880c1757"), looks := true }, kinds := [], alts := [], laidByText := true, laidKinds := [.data, .data, .data, .sentinel, .sentinel], laidTests := true, laidLooks := .later }
def NamePointsUptoCardSaid : Prop := Claim7.holds Tryd.pinned (.plain (OpenSpec.upto namePointsSpec)) namePointsUptoCard

/-- THE SECOND FORM's CARD OF 'packsaddlelaw05.NameItems'. -/
def nameItemsUptoCard : Claim7 := { stood := { row := nameItemsUptoRow, standIns := [], harness := (true, "039c7d746be2dc5819f6c862a3894bd3633ef9a7dee4d63b774f1987880c1757"), looks := true }, kinds := [], alts := [], laidByText := true, laidKinds := [.data, .data, .data, .sentinel, .sentinel], laidTests := true, laidLooks := .later }
def NameItemsUptoCardSaid : Prop := Claim7.holds Tryd.pinned (.plain (OpenSpec.upto nameItemsSpec)) nameItemsUptoCard

/-- THE SECOND FORM's CARD OF 'packsaddlelaw05.NameOrders'. -/
def nameOrdersUptoCard : Claim7 := { stood := { row := nameOrdersUptoRow, standIns := [], harness := (true, "039c7d746be2dc5819f6c862a3894bd3633ef9a7dee4d63b774f1987880c1757"), looks := true }, kinds := [], alts := [], laidByText := true, laidKinds := [.data, .data, .data, .sentinel, .sentinel], laidTests := true, laidLooks := .later }
def NameOrdersUptoCardSaid : Prop := Claim7.holds Tryd.pinned (.plain (OpenSpec.upto nameOrdersSpec)) nameOrdersUptoCard
end Rows
end Go.Proofs.YtpfgepgjpnekdaaDoor
