/-
  DERIVED. GIVEN WITH THE SEED: THE CARDS: each row of YtcbaipnphepbeaaGreatDoorRows.lean that lists a variable, with what it lists TIED to the program's text (the seventh form; the later family's looks); each row that meets fmt, with fmt's text TOLD by the authors' own Lean function (tested against real Go, not proved from fmt's source: count such statements apart). THE CARD IS WHAT COUNTS. Prove the row's statement (the work); the ties are given (YtcbaipnphepbeaaGreatDoorTie.lean); close each card by the builder's one call (the guide's Derived/Test/ToyasCard.lean, 'card_holds'). Laid BY PROGRAM, IN A SANDBOX (cutbox-door.mjs). By AI agents, Wed Nov 11 2026. No macro, syntax, notation, axiom, sorry.
-/
import Derived.Test.YtcbaipnphepbeaaGreatDoorRows
import GoSem.ClaimSeven
namespace Go.Proofs.YtcbaipnphepbeaaGreatDoor
namespace Rows

/-- THE TIED CARD OF 'fluxionlaw03.ShapeValues'. -/
def shapeValuesCard : Claim7 := { stood := { row := shapeValuesRow, standIns := [], harness := (true, "74a4f590cf19fe5091db46413e7db25a7b9d51dc5c5273584579c29297515e2e"), looks := false }, kinds := [], alts := [], laidByText := true, laidKinds := [.data, .data, .data, .data, .data], laidTests := true, laidLooks := .later }
def ShapeValuesCardSaid : Prop := Claim7.holds Tryz.pinned (.plain (OpenSpec.ofChange shapeValuesSpec)) shapeValuesCard

/-- THE TIED CARD OF 'fluxionlaw03.ShapeShown'. -/
def shapeShownCard : Claim7 := { stood := { row := shapeShownRow, standIns := [], harness := (true, "74a4f590cf19fe5091db46413e7db25a7b9d51dc5c5273584579c29297515e2e"), looks := false }, kinds := [], alts := [], laidByText := true, laidKinds := [.data, .data, .data, .data, .data], laidTests := true, laidLooks := .later }
def ShapeShownCardSaid : Prop := Claim7.holds Tryz.pinned (.plain (OpenSpec.ofChange shapeShownSpec)) shapeShownCard

/-- THE TIED CARD OF 'fluxionlaw03.ShapeParses'. -/
def shapeParsesCard : Claim7 := { stood := { row := shapeParsesRow, standIns := [], harness := (true, "74a4f590cf19fe5091db46413e7db25a7b9d51dc5c5273584579c29297515e2e"), looks := false }, kinds := [], alts := [], laidByText := true, laidKinds := [.data, .data, .data, .data, .data], laidTests := true, laidLooks := .later }
def ShapeParsesCardSaid : Prop := Claim7.holds Tryz.pinned (.plain (OpenSpec.ofChange shapeParsesSpec)) shapeParsesCard

/-- THE TIED CARD OF 'fluxionlaw03.ShapeTold'. -/
def shapeToldCard : Claim7 := { stood := { row := shapeToldRow, standIns := [], harness := (true, "74a4f590cf19fe5091db46413e7db25a7b9d51dc5c5273584579c29297515e2e"), looks := false }, kinds := [], alts := [], laidByText := true, laidKinds := [.data, .data, .data, .data, .data], laidTests := true, laidLooks := .later }
def ShapeToldCardSaid : Prop := Claim7.holds Tryz.pinned (.plain (OpenSpec.ofChange shapeToldSpec)) shapeToldCard

/-- THE TIED CARD OF 'fluxionlaw03.ShapeTypes'. -/
def shapeTypesCard : Claim7 := { stood := { row := shapeTypesRow, standIns := [], harness := (true, "74a4f590cf19fe5091db46413e7db25a7b9d51dc5c5273584579c29297515e2e"), looks := false }, kinds := [], alts := [], laidByText := true, laidKinds := [.data, .data, .data, .data, .data], laidTests := true, laidLooks := .later }
def ShapeTypesCardSaid : Prop := Claim7.holds Tryz.pinned (.plain (OpenSpec.ofChange shapeTypesSpec)) shapeTypesCard

/-- THE TIED CARD OF 'fluxionlaw03.ShapeParts'. -/
def shapePartsCard : Claim7 := { stood := { row := shapePartsRow, standIns := [], harness := (true, "74a4f590cf19fe5091db46413e7db25a7b9d51dc5c5273584579c29297515e2e"), looks := false }, kinds := [], alts := [], laidByText := true, laidKinds := [.data, .data, .data, .data, .data], laidTests := true, laidLooks := .later }
def ShapePartsCardSaid : Prop := Claim7.holds Tryz.pinned (.plain (OpenSpec.ofChange shapePartsSpec)) shapePartsCard

/-- THE TIED CARD OF 'fluxionlaw03.ShapePacks'. -/
def shapePacksCard : Claim7 := { stood := { row := shapePacksRow, standIns := [], harness := (true, "74a4f590cf19fe5091db46413e7db25a7b9d51dc5c5273584579c29297515e2e"), looks := false }, kinds := [], alts := [], laidByText := true, laidKinds := [.data, .data, .data, .data, .data], laidTests := true, laidLooks := .later }
def ShapePacksCardSaid : Prop := Claim7.holds Tryz.pinned (.plain (OpenSpec.ofChange shapePacksSpec)) shapePacksCard

/-- THE TIED CARD OF 'fluxionlaw03.ShapeBacks'. -/
def shapeBacksCard : Claim7 := { stood := { row := shapeBacksRow, standIns := [], harness := (true, "74a4f590cf19fe5091db46413e7db25a7b9d51dc5c5273584579c29297515e2e"), looks := false }, kinds := [], alts := [], laidByText := true, laidKinds := [.data, .data, .data, .data, .data], laidTests := true, laidLooks := .later }
def ShapeBacksCardSaid : Prop := Claim7.holds Tryz.pinned (.plain (OpenSpec.ofChange shapeBacksSpec)) shapeBacksCard

/-- THE TIED CARD OF 'fluxionlaw03.ShapeNumbers'. -/
def shapeNumbersCard : Claim7 := { stood := { row := shapeNumbersRow, standIns := [], harness := (true, "74a4f590cf19fe5091db46413e7db25a7b9d51dc5c5273584579c29297515e2e"), looks := false }, kinds := [], alts := [], laidByText := true, laidKinds := [.data, .data, .data, .data, .data], laidTests := true, laidLooks := .later }
def ShapeNumbersCardSaid : Prop := Claim7.holds Tryz.pinned (.plain (OpenSpec.ofChange shapeNumbersSpec)) shapeNumbersCard

/-- THE TIED CARD OF 'fluxionlaw03.ShapeOwn'. -/
def shapeOwnCard : Claim7 := { stood := { row := shapeOwnRow, standIns := [], harness := (true, "74a4f590cf19fe5091db46413e7db25a7b9d51dc5c5273584579c29297515e2e"), looks := false }, kinds := [], alts := [], laidByText := true, laidKinds := [.data, .data, .data, .data, .data], laidTests := true, laidLooks := .later }
def ShapeOwnCardSaid : Prop := Claim7.holds Tryz.pinned (.plain (OpenSpec.ofChange shapeOwnSpec)) shapeOwnCard

/-- THE SECOND FORM's CARD OF 'fluxionlaw03.ShapeValues'. -/
def shapeValuesUptoCard : Claim7 := { stood := { row := shapeValuesUptoRow, standIns := [], harness := (true, "74a4f590cf19fe5091db46413e7db25a7b9d51dc5c5273584579c29297515e2e"), looks := false }, kinds := [], alts := [], laidByText := true, laidKinds := [.data, .data, .data, .data, .data], laidTests := true, laidLooks := .later }
def ShapeValuesUptoCardSaid : Prop := Claim7.holds Tryz.pinned (.plain (OpenSpec.upto shapeValuesSpec)) shapeValuesUptoCard

/-- THE SECOND FORM's CARD OF 'fluxionlaw03.ShapeShown'. -/
def shapeShownUptoCard : Claim7 := { stood := { row := shapeShownUptoRow, standIns := [], harness := (true, "74a4f590cf19fe5091db46413e7db25a7b9d51dc5c5273584579c29297515e2e"), looks := false }, kinds := [], alts := [], laidByText := true, laidKinds := [.data, .data, .data, .data, .data], laidTests := true, laidLooks := .later }
def ShapeShownUptoCardSaid : Prop := Claim7.holds Tryz.pinned (.plain (OpenSpec.upto shapeShownSpec)) shapeShownUptoCard

/-- THE SECOND FORM's CARD OF 'fluxionlaw03.ShapeParses'. -/
def shapeParsesUptoCard : Claim7 := { stood := { row := shapeParsesUptoRow, standIns := [], harness := (true, "74a4f590cf19fe5091db46413e7db25a7b9d51dc5c5273584579c29297515e2e"), looks := false }, kinds := [], alts := [], laidByText := true, laidKinds := [.data, .data, .data, .data, .data], laidTests := true, laidLooks := .later }
def ShapeParsesUptoCardSaid : Prop := Claim7.holds Tryz.pinned (.plain (OpenSpec.upto shapeParsesSpec)) shapeParsesUptoCard

/-- THE SECOND FORM's CARD OF 'fluxionlaw03.ShapeTold'. -/
def shapeToldUptoCard : Claim7 := { stood := { row := shapeToldUptoRow, standIns := [], harness := (true, "74a4f590cf19fe5091db46413e7db25a7b9d51dc5c5273584579c29297515e2e"), looks := false }, kinds := [], alts := [], laidByText := true, laidKinds := [.data, .data, .data, .data, .data], laidTests := true, laidLooks := .later }
def ShapeToldUptoCardSaid : Prop := Claim7.holds Tryz.pinned (.plain (OpenSpec.upto shapeToldSpec)) shapeToldUptoCard

/-- THE SECOND FORM's CARD OF 'fluxionlaw03.ShapeTypes'. -/
def shapeTypesUptoCard : Claim7 := { stood := { row := shapeTypesUptoRow, standIns := [], harness := (true, "74a4f590cf19fe5091db46413e7db25a7b9d51dc5c5273584579c29297515e2e"), looks := false }, kinds := [], alts := [], laidByText := true, laidKinds := [.data, .data, .data, .data, .data], laidTests := true, laidLooks := .later }
def ShapeTypesUptoCardSaid : Prop := Claim7.holds Tryz.pinned (.plain (OpenSpec.upto shapeTypesSpec)) shapeTypesUptoCard

/-- THE SECOND FORM's CARD OF 'fluxionlaw03.ShapeParts'. -/
def shapePartsUptoCard : Claim7 := { stood := { row := shapePartsUptoRow, standIns := [], harness := (true, "74a4f590cf19fe5091db46413e7db25a7b9d51dc5c5273584579c29297515e2e"), looks := false }, kinds := [], alts := [], laidByText := true, laidKinds := [.data, .data, .data, .data, .data], laidTests := true, laidLooks := .later }
def ShapePartsUptoCardSaid : Prop := Claim7.holds Tryz.pinned (.plain (OpenSpec.upto shapePartsSpec)) shapePartsUptoCard

/-- THE SECOND FORM's CARD OF 'fluxionlaw03.ShapePacks'. -/
def shapePacksUptoCard : Claim7 := { stood := { row := shapePacksUptoRow, standIns := [], harness := (true, "74a4f590cf19fe5091db46413e7db25a7b9d51dc5c5273584579c29297515e2e"), looks := false }, kinds := [], alts := [], laidByText := true, laidKinds := [.data, .data, .data, .data, .data], laidTests := true, laidLooks := .later }
def ShapePacksUptoCardSaid : Prop := Claim7.holds Tryz.pinned (.plain (OpenSpec.upto shapePacksSpec)) shapePacksUptoCard

/-- THE SECOND FORM's CARD OF 'fluxionlaw03.ShapeBacks'. -/
def shapeBacksUptoCard : Claim7 := { stood := { row := shapeBacksUptoRow, standIns := [], harness := (true, "74a4f590cf19fe5091db46413e7db25a7b9d51dc5c5273584579c29297515e2e"), looks := false }, kinds := [], alts := [], laidByText := true, laidKinds := [.data, .data, .data, .data, .data], laidTests := true, laidLooks := .later }
def ShapeBacksUptoCardSaid : Prop := Claim7.holds Tryz.pinned (.plain (OpenSpec.upto shapeBacksSpec)) shapeBacksUptoCard

/-- THE SECOND FORM's CARD OF 'fluxionlaw03.ShapeNumbers'. -/
def shapeNumbersUptoCard : Claim7 := { stood := { row := shapeNumbersUptoRow, standIns := [], harness := (true, "74a4f590cf19fe5091db46413e7db25a7b9d51dc5c5273584579c29297515e2e"), looks := false }, kinds := [], alts := [], laidByText := true, laidKinds := [.data, .data, .data, .data, .data], laidTests := true, laidLooks := .later }
def ShapeNumbersUptoCardSaid : Prop := Claim7.holds Tryz.pinned (.plain (OpenSpec.upto shapeNumbersSpec)) shapeNumbersUptoCard

/-- THE SECOND FORM's CARD OF 'fluxionlaw03.ShapeOwn'. -/
def shapeOwnUptoCard : Claim7 := { stood := { row := shapeOwnUptoRow, standIns := [], harness := (true, "74a4f590cf19fe5091db46413e7db25a7b9d51dc5c5273584579c29297515e2e"), looks := false }, kinds := [], alts := [], laidByText := true, laidKinds := [.data, .data, .data, .data, .data], laidTests := true, laidLooks := .later }
def ShapeOwnUptoCardSaid : Prop := Claim7.holds Tryz.pinned (.plain (OpenSpec.upto shapeOwnSpec)) shapeOwnUptoCard
end Rows
end Go.Proofs.YtcbaipnphepbeaaGreatDoor
