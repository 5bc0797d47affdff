/-
  DERIVED. GIVEN WITH THE SEED: THE CARDS: each row of YtgfkachfbnbikaaGreatDoorRows.lean that lists a variable, with what it lists TIED to the program's text (the seventh form; the later family's looks); each row that meets fmt, with fmt's text TOLD by the authors' own Lean function (tested against real Go, not proved from fmt's source: count such statements apart). THE CARD IS WHAT COUNTS. Prove the row's statement (the work); the ties are given (YtgfkachfbnbikaaGreatDoorTie.lean); close each card by the builder's one call (the guide's Derived/Test/ToyasCard.lean, 'card_holds'). Laid BY PROGRAM, IN A SANDBOX (cutbox-door.mjs). By AI agents, Wed Nov 11 2026. No macro, syntax, notation, axiom, sorry.
-/
import Derived.Test.YtgfkachfbnbikaaGreatDoorRows
import GoSem.ClaimSeven
namespace Go.Proofs.YtgfkachfbnbikaaGreatDoor
namespace Rows

/-- THE TIED CARD OF 'fluxionlaw02.FracMakes'. -/
def fracMakesCard : Claim7 := { stood := { row := fracMakesRow, standIns := [], harness := (true, "d85da3931ba373f0f2d5a7ce168e29c3a5db8cee51669ffe15e332533fbaa330"), looks := false }, kinds := [], alts := [], laidByText := true, laidKinds := [.data, .data, .pinned], laidTests := true, laidLooks := .later }
def FracMakesCardSaid : Prop := Claim7.holds Tryz.pinned (.plain (OpenSpec.ofChange fracMakesSpec)) fracMakesCard

/-- THE TIED CARD OF 'fluxionlaw02.FracTexts'. -/
def fracTextsCard : Claim7 := { stood := { row := fracTextsRow, standIns := [], harness := (true, "d85da3931ba373f0f2d5a7ce168e29c3a5db8cee51669ffe15e332533fbaa330"), looks := false }, kinds := [], alts := [], laidByText := true, laidKinds := [.data, .data, .pinned], laidTests := true, laidLooks := .later }
def FracTextsCardSaid : Prop := Claim7.holds Tryz.pinned (.plain (OpenSpec.ofChange fracTextsSpec)) fracTextsCard

/-- THE TIED CARD OF 'fluxionlaw02.FracReads'. -/
def fracReadsCard : Claim7 := { stood := { row := fracReadsRow, standIns := [], harness := (true, "d85da3931ba373f0f2d5a7ce168e29c3a5db8cee51669ffe15e332533fbaa330"), looks := false }, kinds := [], alts := [], laidByText := true, laidKinds := [.data, .data, .pinned], laidTests := true, laidLooks := .later }
def FracReadsCardSaid : Prop := Claim7.holds Tryz.pinned (.plain (OpenSpec.ofChange fracReadsSpec)) fracReadsCard

/-- THE TIED CARD OF 'fluxionlaw02.FracSums'. -/
def fracSumsCard : Claim7 := { stood := { row := fracSumsRow, standIns := [], harness := (true, "d85da3931ba373f0f2d5a7ce168e29c3a5db8cee51669ffe15e332533fbaa330"), looks := false }, kinds := [], alts := [], laidByText := true, laidKinds := [.data, .data, .pinned], laidTests := true, laidLooks := .later }
def FracSumsCardSaid : Prop := Claim7.holds Tryz.pinned (.plain (OpenSpec.ofChange fracSumsSpec)) fracSumsCard

/-- THE TIED CARD OF 'fluxionlaw02.FracProducts'. -/
def fracProductsCard : Claim7 := { stood := { row := fracProductsRow, standIns := [], harness := (true, "d85da3931ba373f0f2d5a7ce168e29c3a5db8cee51669ffe15e332533fbaa330"), looks := false }, kinds := [], alts := [], laidByText := true, laidKinds := [.data, .data, .pinned], laidTests := true, laidLooks := .later }
def FracProductsCardSaid : Prop := Claim7.holds Tryz.pinned (.plain (OpenSpec.ofChange fracProductsSpec)) fracProductsCard

/-- THE TIED CARD OF 'fluxionlaw02.FracField'. -/
def fracFieldCard : Claim7 := { stood := { row := fracFieldRow, standIns := [], harness := (true, "d85da3931ba373f0f2d5a7ce168e29c3a5db8cee51669ffe15e332533fbaa330"), looks := false }, kinds := [], alts := [], laidByText := true, laidKinds := [.data, .data, .pinned], laidTests := true, laidLooks := .later }
def FracFieldCardSaid : Prop := Claim7.holds Tryz.pinned (.plain (OpenSpec.ofChange fracFieldSpec)) fracFieldCard

/-- THE TIED CARD OF 'fluxionlaw02.FracLowest'. -/
def fracLowestCard : Claim7 := { stood := { row := fracLowestRow, standIns := [], harness := (true, "d85da3931ba373f0f2d5a7ce168e29c3a5db8cee51669ffe15e332533fbaa330"), looks := false }, kinds := [], alts := [], laidByText := true, laidKinds := [.data, .data, .pinned], laidTests := true, laidLooks := .later }
def FracLowestCardSaid : Prop := Claim7.holds Tryz.pinned (.plain (OpenSpec.ofChange fracLowestSpec)) fracLowestCard

/-- THE TIED CARD OF 'fluxionlaw02.FracForms'. -/
def fracFormsCard : Claim7 := { stood := { row := fracFormsRow, standIns := [], harness := (true, "d85da3931ba373f0f2d5a7ce168e29c3a5db8cee51669ffe15e332533fbaa330"), looks := false }, kinds := [], alts := [], laidByText := true, laidKinds := [.data, .data, .pinned], laidTests := true, laidLooks := .later }
def FracFormsCardSaid : Prop := Claim7.holds Tryz.pinned (.plain (OpenSpec.ofChange fracFormsSpec)) fracFormsCard

/-- THE TIED CARD OF 'fluxionlaw02.FracFloor'. -/
def fracFloorCard : Claim7 := { stood := { row := fracFloorRow, standIns := [], harness := (true, "d85da3931ba373f0f2d5a7ce168e29c3a5db8cee51669ffe15e332533fbaa330"), looks := false }, kinds := [], alts := [], laidByText := true, laidKinds := [.data, .data, .pinned], laidTests := true, laidLooks := .later }
def FracFloorCardSaid : Prop := Claim7.holds Tryz.pinned (.plain (OpenSpec.ofChange fracFloorSpec)) fracFloorCard

/-- THE TIED CARD OF 'fluxionlaw02.FracOwn'. -/
def fracOwnCard : Claim7 := { stood := { row := fracOwnRow, standIns := [], harness := (true, "d85da3931ba373f0f2d5a7ce168e29c3a5db8cee51669ffe15e332533fbaa330"), looks := false }, kinds := [], alts := [], laidByText := true, laidKinds := [.data, .data, .pinned], laidTests := true, laidLooks := .later }
def FracOwnCardSaid : Prop := Claim7.holds Tryz.pinned (.plain (OpenSpec.ofChange fracOwnSpec)) fracOwnCard

/-- THE TIED CARD OF 'fluxionlaw02.FracOrder'. -/
def fracOrderCard : Claim7 := { stood := { row := fracOrderRow, standIns := [], harness := (true, "d85da3931ba373f0f2d5a7ce168e29c3a5db8cee51669ffe15e332533fbaa330"), looks := false }, kinds := [], alts := [], laidByText := true, laidKinds := [.data, .data, .pinned], laidTests := true, laidLooks := .later }
def FracOrderCardSaid : Prop := Claim7.holds Tryz.pinned (.plain (OpenSpec.ofChange fracOrderSpec)) fracOrderCard

/-- THE TIED CARD OF 'fluxionlaw02.FracBits'. -/
def fracBitsCard : Claim7 := { stood := { row := fracBitsRow, standIns := [], harness := (true, "d85da3931ba373f0f2d5a7ce168e29c3a5db8cee51669ffe15e332533fbaa330"), looks := false }, kinds := [], alts := [], laidByText := true, laidKinds := [.data, .data, .pinned], laidTests := true, laidLooks := .later }
def FracBitsCardSaid : Prop := Claim7.holds Tryz.pinned (.plain (OpenSpec.ofChange fracBitsSpec)) fracBitsCard

/-- THE TIED CARD OF 'fluxionlaw02.FracFaults'. -/
def fracFaultsCard : Claim7 := { stood := { row := fracFaultsRow, standIns := [], harness := (true, "d85da3931ba373f0f2d5a7ce168e29c3a5db8cee51669ffe15e332533fbaa330"), looks := false }, kinds := [], alts := [], laidByText := true, laidKinds := [.data, .data, .pinned], laidTests := true, laidLooks := .later }
def FracFaultsCardSaid : Prop := Claim7.holds Tryz.pinned (.plain (OpenSpec.ofChange fracFaultsSpec)) fracFaultsCard

/-- THE SECOND FORM's CARD OF 'fluxionlaw02.FracMakes'. -/
def fracMakesUptoCard : Claim7 := { stood := { row := fracMakesUptoRow, standIns := [], harness := (true, "d85da3931ba373f0f2d5a7ce168e29c3a5db8cee51669ffe15e332533fbaa330"), looks := false }, kinds := [], alts := [], laidByText := true, laidKinds := [.data, .data, .pinned], laidTests := true, laidLooks := .later }
def FracMakesUptoCardSaid : Prop := Claim7.holds Tryz.pinned (.plain (OpenSpec.upto fracMakesSpec)) fracMakesUptoCard

/-- THE SECOND FORM's CARD OF 'fluxionlaw02.FracTexts'. -/
def fracTextsUptoCard : Claim7 := { stood := { row := fracTextsUptoRow, standIns := [], harness := (true, "d85da3931ba373f0f2d5a7ce168e29c3a5db8cee51669ffe15e332533fbaa330"), looks := false }, kinds := [], alts := [], laidByText := true, laidKinds := [.data, .data, .pinned], laidTests := true, laidLooks := .later }
def FracTextsUptoCardSaid : Prop := Claim7.holds Tryz.pinned (.plain (OpenSpec.upto fracTextsSpec)) fracTextsUptoCard

/-- THE SECOND FORM's CARD OF 'fluxionlaw02.FracReads'. -/
def fracReadsUptoCard : Claim7 := { stood := { row := fracReadsUptoRow, standIns := [], harness := (true, "d85da3931ba373f0f2d5a7ce168e29c3a5db8cee51669ffe15e332533fbaa330"), looks := false }, kinds := [], alts := [], laidByText := true, laidKinds := [.data, .data, .pinned], laidTests := true, laidLooks := .later }
def FracReadsUptoCardSaid : Prop := Claim7.holds Tryz.pinned (.plain (OpenSpec.upto fracReadsSpec)) fracReadsUptoCard

/-- THE SECOND FORM's CARD OF 'fluxionlaw02.FracSums'. -/
def fracSumsUptoCard : Claim7 := { stood := { row := fracSumsUptoRow, standIns := [], harness := (true, "d85da3931ba373f0f2d5a7ce168e29c3a5db8cee51669ffe15e332533fbaa330"), looks := false }, kinds := [], alts := [], laidByText := true, laidKinds := [.data, .data, .pinned], laidTests := true, laidLooks := .later }
def FracSumsUptoCardSaid : Prop := Claim7.holds Tryz.pinned (.plain (OpenSpec.upto fracSumsSpec)) fracSumsUptoCard

/-- THE SECOND FORM's CARD OF 'fluxionlaw02.FracProducts'. -/
def fracProductsUptoCard : Claim7 := { stood := { row := fracProductsUptoRow, standIns := [], harness := (true, "d85da3931ba373f0f2d5a7ce168e29c3a5db8cee51669ffe15e332533fbaa330"), looks := false }, kinds := [], alts := [], laidByText := true, laidKinds := [.data, .data, .pinned], laidTests := true, laidLooks := .later }
def FracProductsUptoCardSaid : Prop := Claim7.holds Tryz.pinned (.plain (OpenSpec.upto fracProductsSpec)) fracProductsUptoCard

/-- THE SECOND FORM's CARD OF 'fluxionlaw02.FracField'. -/
def fracFieldUptoCard : Claim7 := { stood := { row := fracFieldUptoRow, standIns := [], harness := (true, "d85da3931ba373f0f2d5a7ce168e29c3a5db8cee51669ffe15e332533fbaa330"), looks := false }, kinds := [], alts := [], laidByText := true, laidKinds := [.data, .data, .pinned], laidTests := true, laidLooks := .later }
def FracFieldUptoCardSaid : Prop := Claim7.holds Tryz.pinned (.plain (OpenSpec.upto fracFieldSpec)) fracFieldUptoCard

/-- THE SECOND FORM's CARD OF 'fluxionlaw02.FracLowest'. -/
def fracLowestUptoCard : Claim7 := { stood := { row := fracLowestUptoRow, standIns := [], harness := (true, "d85da3931ba373f0f2d5a7ce168e29c3a5db8cee51669ffe15e332533fbaa330"), looks := false }, kinds := [], alts := [], laidByText := true, laidKinds := [.data, .data, .pinned], laidTests := true, laidLooks := .later }
def FracLowestUptoCardSaid : Prop := Claim7.holds Tryz.pinned (.plain (OpenSpec.upto fracLowestSpec)) fracLowestUptoCard

/-- THE SECOND FORM's CARD OF 'fluxionlaw02.FracForms'. -/
def fracFormsUptoCard : Claim7 := { stood := { row := fracFormsUptoRow, standIns := [], harness := (true, "d85da3931ba373f0f2d5a7ce168e29c3a5db8cee51669ffe15e332533fbaa330"), looks := false }, kinds := [], alts := [], laidByText := true, laidKinds := [.data, .data, .pinned], laidTests := true, laidLooks := .later }
def FracFormsUptoCardSaid : Prop := Claim7.holds Tryz.pinned (.plain (OpenSpec.upto fracFormsSpec)) fracFormsUptoCard

/-- THE SECOND FORM's CARD OF 'fluxionlaw02.FracFloor'. -/
def fracFloorUptoCard : Claim7 := { stood := { row := fracFloorUptoRow, standIns := [], harness := (true, "d85da3931ba373f0f2d5a7ce168e29c3a5db8cee51669ffe15e332533fbaa330"), looks := false }, kinds := [], alts := [], laidByText := true, laidKinds := [.data, .data, .pinned], laidTests := true, laidLooks := .later }
def FracFloorUptoCardSaid : Prop := Claim7.holds Tryz.pinned (.plain (OpenSpec.upto fracFloorSpec)) fracFloorUptoCard

/-- THE SECOND FORM's CARD OF 'fluxionlaw02.FracOwn'. -/
def fracOwnUptoCard : Claim7 := { stood := { row := fracOwnUptoRow, standIns := [], harness := (true, "d85da3931ba373f0f2d5a7ce168e29c3a5db8cee51669ffe15e332533fbaa330"), looks := false }, kinds := [], alts := [], laidByText := true, laidKinds := [.data, .data, .pinned], laidTests := true, laidLooks := .later }
def FracOwnUptoCardSaid : Prop := Claim7.holds Tryz.pinned (.plain (OpenSpec.upto fracOwnSpec)) fracOwnUptoCard

/-- THE SECOND FORM's CARD OF 'fluxionlaw02.FracOrder'. -/
def fracOrderUptoCard : Claim7 := { stood := { row := fracOrderUptoRow, standIns := [], harness := (true, "d85da3931ba373f0f2d5a7ce168e29c3a5db8cee51669ffe15e332533fbaa330"), looks := false }, kinds := [], alts := [], laidByText := true, laidKinds := [.data, .data, .pinned], laidTests := true, laidLooks := .later }
def FracOrderUptoCardSaid : Prop := Claim7.holds Tryz.pinned (.plain (OpenSpec.upto fracOrderSpec)) fracOrderUptoCard

/-- THE SECOND FORM's CARD OF 'fluxionlaw02.FracBits'. -/
def fracBitsUptoCard : Claim7 := { stood := { row := fracBitsUptoRow, standIns := [], harness := (true, "d85da3931ba373f0f2d5a7ce168e29c3a5db8cee51669ffe15e332533fbaa330"), looks := false }, kinds := [], alts := [], laidByText := true, laidKinds := [.data, .data, .pinned], laidTests := true, laidLooks := .later }
def FracBitsUptoCardSaid : Prop := Claim7.holds Tryz.pinned (.plain (OpenSpec.upto fracBitsSpec)) fracBitsUptoCard

/-- THE SECOND FORM's CARD OF 'fluxionlaw02.FracFaults'. -/
def fracFaultsUptoCard : Claim7 := { stood := { row := fracFaultsUptoRow, standIns := [], harness := (true, "d85da3931ba373f0f2d5a7ce168e29c3a5db8cee51669ffe15e332533fbaa330"), looks := false }, kinds := [], alts := [], laidByText := true, laidKinds := [.data, .data, .pinned], laidTests := true, laidLooks := .later }
def FracFaultsUptoCardSaid : Prop := Claim7.holds Tryz.pinned (.plain (OpenSpec.upto fracFaultsSpec)) fracFaultsUptoCard
end Rows
end Go.Proofs.YtgfkachfbnbikaaGreatDoor
