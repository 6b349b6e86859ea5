/-
  DERIVED. GIVEN WITH THE SEED: THE CARDS: each row of YtehgfpfmpkmdmaaDoorRows.lean that lists a variable, with what it lists TIED to the program's text (the seventh form; the later family's looks); each row that meets fmt, with fmt's text TOLD by the authors' own Lean function (tested against real Go, not proved from fmt's source: count such statements apart). THE CARD IS WHAT COUNTS. Prove the row's statement (the work); the ties are given (YtehgfpfmpkmdmaaDoorTie.lean); close each card by the builder's one call (the guide's Derived/Test/ToyasCard.lean, 'card_holds'). Laid BY PROGRAM, IN A SANDBOX (cutbox-door.mjs). By AI agents, Wed Nov 11 2026. No macro, syntax, notation, axiom, sorry.
-/
import Derived.Test.YtehgfpfmpkmdmaaDoorRows
import GoSem.ClaimSeven
namespace Go.Proofs.YtehgfpfmpkmdmaaDoor
namespace Rows

/-- THE TIED CARD OF 'letterbaglaw18.FieldPolys'. -/
def fieldPolysCard : Claim7 := { stood := { row := fieldPolysRow, standIns := [], harness := (true, "e4aa14ed32b312072322ec20a656e2a84d18971679116ae700052d60ca1cd7f7"), looks := false }, kinds := [], alts := [], laidByText := true, laidKinds := [.widerDeep], laidTests := true, laidLooks := .later }
def FieldPolysCardSaid : Prop := Claim7.holds Tryd.pinned (.plain (OpenSpec.ofChange fieldPolysSpec)) fieldPolysCard

/-- THE TIED CARD OF 'letterbaglaw18.FieldDivides'. -/
def fieldDividesCard : Claim7 := { stood := { row := fieldDividesRow, standIns := [], harness := (true, "e4aa14ed32b312072322ec20a656e2a84d18971679116ae700052d60ca1cd7f7"), looks := false }, kinds := [], alts := [], laidByText := true, laidKinds := [.widerDeep], laidTests := true, laidLooks := .later }
def FieldDividesCardSaid : Prop := Claim7.holds Tryd.pinned (.plain (OpenSpec.ofChange fieldDividesSpec)) fieldDividesCard

/-- THE TIED CARD OF 'letterbaglaw18.FieldPowers'. -/
def fieldPowersCard : Claim7 := { stood := { row := fieldPowersRow, standIns := [], harness := (true, "e4aa14ed32b312072322ec20a656e2a84d18971679116ae700052d60ca1cd7f7"), looks := false }, kinds := [], alts := [], laidByText := true, laidKinds := [.widerDeep], laidTests := true, laidLooks := .later }
def FieldPowersCardSaid : Prop := Claim7.holds Tryd.pinned (.plain (OpenSpec.ofChange fieldPowersSpec)) fieldPowersCard

/-- THE TIED CARD OF 'letterbaglaw18.FieldTells'. -/
def fieldTellsCard : Claim7 := { stood := { row := fieldTellsRow, standIns := [], harness := (true, "e4aa14ed32b312072322ec20a656e2a84d18971679116ae700052d60ca1cd7f7"), looks := false }, kinds := [], alts := [], laidByText := true, laidKinds := [.widerDeep], laidTests := true, laidLooks := .later }
def FieldTellsCardSaid : Prop := Claim7.holds Tryd.pinned (.plain (OpenSpec.ofChange fieldTellsSpec)) fieldTellsCard

/-- THE TIED CARD OF 'letterbaglaw18.FieldValues'. -/
def fieldValuesCard : Claim7 := { stood := { row := fieldValuesRow, standIns := [], harness := (true, "e4aa14ed32b312072322ec20a656e2a84d18971679116ae700052d60ca1cd7f7"), looks := false }, kinds := [], alts := [], laidByText := true, laidKinds := [.widerDeep], laidTests := true, laidLooks := .later }
def FieldValuesCardSaid : Prop := Claim7.holds Tryd.pinned (.plain (OpenSpec.ofChange fieldValuesSpec)) fieldValuesCard

/-- THE TIED CARD OF 'letterbaglaw18.FieldLaws'. -/
def fieldLawsCard : Claim7 := { stood := { row := fieldLawsRow, standIns := [], harness := (true, "e4aa14ed32b312072322ec20a656e2a84d18971679116ae700052d60ca1cd7f7"), looks := false }, kinds := [], alts := [], laidByText := true, laidKinds := [.widerDeep], laidTests := true, laidLooks := .later }
def FieldLawsCardSaid : Prop := Claim7.holds Tryd.pinned (.plain (OpenSpec.ofChange fieldLawsSpec)) fieldLawsCard

/-- THE TIED CARD OF 'letterbaglaw18.FieldRoots'. -/
def fieldRootsCard : Claim7 := { stood := { row := fieldRootsRow, standIns := [], harness := (true, "e4aa14ed32b312072322ec20a656e2a84d18971679116ae700052d60ca1cd7f7"), looks := false }, kinds := [], alts := [], laidByText := true, laidKinds := [.widerDeep], laidTests := true, laidLooks := .later }
def FieldRootsCardSaid : Prop := Claim7.holds Tryd.pinned (.plain (OpenSpec.ofChange fieldRootsSpec)) fieldRootsCard

/-- THE TIED CARD OF 'letterbaglaw18.FieldThrough'. -/
def fieldThroughCard : Claim7 := { stood := { row := fieldThroughRow, standIns := [], harness := (true, "e4aa14ed32b312072322ec20a656e2a84d18971679116ae700052d60ca1cd7f7"), looks := false }, kinds := [], alts := [], laidByText := true, laidKinds := [.widerDeep], laidTests := true, laidLooks := .later }
def FieldThroughCardSaid : Prop := Claim7.holds Tryd.pinned (.plain (OpenSpec.ofChange fieldThroughSpec)) fieldThroughCard

/-- THE SECOND FORM's CARD OF 'letterbaglaw18.FieldPolys'. -/
def fieldPolysUptoCard : Claim7 := { stood := { row := fieldPolysUptoRow, standIns := [], harness := (true, "e4aa14ed32b312072322ec20a656e2a84d18971679116ae700052d60ca1cd7f7"), looks := false }, kinds := [], alts := [], laidByText := true, laidKinds := [.widerDeep], laidTests := true, laidLooks := .later }
def FieldPolysUptoCardSaid : Prop := Claim7.holds Tryd.pinned (.plain (OpenSpec.upto fieldPolysSpec)) fieldPolysUptoCard

/-- THE SECOND FORM's CARD OF 'letterbaglaw18.FieldDivides'. -/
def fieldDividesUptoCard : Claim7 := { stood := { row := fieldDividesUptoRow, standIns := [], harness := (true, "e4aa14ed32b312072322ec20a656e2a84d18971679116ae700052d60ca1cd7f7"), looks := false }, kinds := [], alts := [], laidByText := true, laidKinds := [.widerDeep], laidTests := true, laidLooks := .later }
def FieldDividesUptoCardSaid : Prop := Claim7.holds Tryd.pinned (.plain (OpenSpec.upto fieldDividesSpec)) fieldDividesUptoCard

/-- THE SECOND FORM's CARD OF 'letterbaglaw18.FieldPowers'. -/
def fieldPowersUptoCard : Claim7 := { stood := { row := fieldPowersUptoRow, standIns := [], harness := (true, "e4aa14ed32b312072322ec20a656e2a84d18971679116ae700052d60ca1cd7f7"), looks := false }, kinds := [], alts := [], laidByText := true, laidKinds := [.widerDeep], laidTests := true, laidLooks := .later }
def FieldPowersUptoCardSaid : Prop := Claim7.holds Tryd.pinned (.plain (OpenSpec.upto fieldPowersSpec)) fieldPowersUptoCard

/-- THE SECOND FORM's CARD OF 'letterbaglaw18.FieldTells'. -/
def fieldTellsUptoCard : Claim7 := { stood := { row := fieldTellsUptoRow, standIns := [], harness := (true, "e4aa14ed32b312072322ec20a656e2a84d18971679116ae700052d60ca1cd7f7"), looks := false }, kinds := [], alts := [], laidByText := true, laidKinds := [.widerDeep], laidTests := true, laidLooks := .later }
def FieldTellsUptoCardSaid : Prop := Claim7.holds Tryd.pinned (.plain (OpenSpec.upto fieldTellsSpec)) fieldTellsUptoCard

/-- THE SECOND FORM's CARD OF 'letterbaglaw18.FieldValues'. -/
def fieldValuesUptoCard : Claim7 := { stood := { row := fieldValuesUptoRow, standIns := [], harness := (true, "e4aa14ed32b312072322ec20a656e2a84d18971679116ae700052d60ca1cd7f7"), looks := false }, kinds := [], alts := [], laidByText := true, laidKinds := [.widerDeep], laidTests := true, laidLooks := .later }
def FieldValuesUptoCardSaid : Prop := Claim7.holds Tryd.pinned (.plain (OpenSpec.upto fieldValuesSpec)) fieldValuesUptoCard

/-- THE SECOND FORM's CARD OF 'letterbaglaw18.FieldLaws'. -/
def fieldLawsUptoCard : Claim7 := { stood := { row := fieldLawsUptoRow, standIns := [], harness := (true, "e4aa14ed32b312072322ec20a656e2a84d18971679116ae700052d60ca1cd7f7"), looks := false }, kinds := [], alts := [], laidByText := true, laidKinds := [.widerDeep], laidTests := true, laidLooks := .later }
def FieldLawsUptoCardSaid : Prop := Claim7.holds Tryd.pinned (.plain (OpenSpec.upto fieldLawsSpec)) fieldLawsUptoCard

/-- THE SECOND FORM's CARD OF 'letterbaglaw18.FieldRoots'. -/
def fieldRootsUptoCard : Claim7 := { stood := { row := fieldRootsUptoRow, standIns := [], harness := (true, "e4aa14ed32b312072322ec20a656e2a84d18971679116ae700052d60ca1cd7f7"), looks := false }, kinds := [], alts := [], laidByText := true, laidKinds := [.widerDeep], laidTests := true, laidLooks := .later }
def FieldRootsUptoCardSaid : Prop := Claim7.holds Tryd.pinned (.plain (OpenSpec.upto fieldRootsSpec)) fieldRootsUptoCard

/-- THE SECOND FORM's CARD OF 'letterbaglaw18.FieldThrough'. -/
def fieldThroughUptoCard : Claim7 := { stood := { row := fieldThroughUptoRow, standIns := [], harness := (true, "e4aa14ed32b312072322ec20a656e2a84d18971679116ae700052d60ca1cd7f7"), looks := false }, kinds := [], alts := [], laidByText := true, laidKinds := [.widerDeep], laidTests := true, laidLooks := .later }
def FieldThroughUptoCardSaid : Prop := Claim7.holds Tryd.pinned (.plain (OpenSpec.upto fieldThroughSpec)) fieldThroughUptoCard
end Rows
end Go.Proofs.YtehgfpfmpkmdmaaDoor
