/-
  DERIVED. GIVEN WITH THE SEED: THE CARDS: each row of YtkhepehgafijfaaDoorRows.lean that lists a variable, with what it lists TIED to the program's text (the seventh form; the later family's looks); each row that meets fmt, with fmt's text TOLD by the authors' own Lean function (tested against real Go, not proved from fmt's source: count such statements apart). THE CARD IS WHAT COUNTS. Prove the row's statement (the work); the ties are given (YtkhepehgafijfaaDoorTie.lean); close each card by the builder's one call (the guide's Derived/Test/ToyasCard.lean, 'card_holds'). Laid BY PROGRAM, IN A SANDBOX (cutbox-door.mjs). By AI agents, Wed Nov 11 2026. No macro, syntax, notation, axiom, sorry.
-/
import Derived.Test.YtkhepehgafijfaaDoorRows
import GoSem.ClaimSeven
namespace Go.Proofs.YtkhepehgafijfaaDoor
namespace Rows

/-- THE TIED CARD OF 'periscopelaw20.LineEscapes'. -/
def lineEscapesCard : Claim7 := { stood := { row := lineEscapesRow, standIns := [], harness := (true, "4703f8e3b27d93658ed78d4af827d65ff7a3bbfd9e29887c11b7b91149c218b9"), looks := false }, kinds := [], alts := [], laidByText := true, laidKinds := [.data, .data, .data], laidTests := true, laidLooks := .later }
def LineEscapesCardSaid : Prop := Claim7.holds Tryd.pinned (.plain (OpenSpec.ofChange lineEscapesSpec)) lineEscapesCard

/-- THE TIED CARD OF 'periscopelaw20.LineValues'. -/
def lineValuesCard : Claim7 := { stood := { row := lineValuesRow, standIns := [], harness := (true, "4703f8e3b27d93658ed78d4af827d65ff7a3bbfd9e29887c11b7b91149c218b9"), looks := false }, kinds := [], alts := [], laidByText := true, laidKinds := [.data, .data, .data], laidTests := true, laidLooks := .later }
def LineValuesCardSaid : Prop := Claim7.holds Tryd.pinned (.plain (OpenSpec.ofChange lineValuesSpec)) lineValuesCard

/-- THE TIED CARD OF 'periscopelaw20.LineCaps'. -/
def lineCapsCard : Claim7 := { stood := { row := lineCapsRow, standIns := [], harness := (true, "4703f8e3b27d93658ed78d4af827d65ff7a3bbfd9e29887c11b7b91149c218b9"), looks := false }, kinds := [], alts := [], laidByText := true, laidKinds := [.data, .data, .data], laidTests := true, laidLooks := .later }
def LineCapsCardSaid : Prop := Claim7.holds Tryd.pinned (.plain (OpenSpec.ofChange lineCapsSpec)) lineCapsCard

/-- THE TIED CARD OF 'periscopelaw20.LineApart'. -/
def lineApartCard : Claim7 := { stood := { row := lineApartRow, standIns := [], harness := (true, "4703f8e3b27d93658ed78d4af827d65ff7a3bbfd9e29887c11b7b91149c218b9"), looks := false }, kinds := [], alts := [], laidByText := true, laidKinds := [.data, .data, .data], laidTests := true, laidLooks := .later }
def LineApartCardSaid : Prop := Claim7.holds Tryd.pinned (.plain (OpenSpec.ofChange lineApartSpec)) lineApartCard

/-- THE TIED CARD OF 'periscopelaw08.TstateReads'. -/
def tstateReadsCard : Claim7 := { stood := { row := tstateReadsRow, standIns := [], harness := (true, "4703f8e3b27d93658ed78d4af827d65ff7a3bbfd9e29887c11b7b91149c218b9"), looks := false }, kinds := [], alts := [], laidByText := true, laidKinds := [.data, .pinned], laidTests := true, laidLooks := .later }
def TstateReadsCardSaid : Prop := Claim7.holds Tryd.pinned (.plain (OpenSpec.ofChange tstateReadsSpec)) tstateReadsCard

/-- THE TIED CARD OF 'periscopelaw08.TstateLists'. -/
def tstateListsCard : Claim7 := { stood := { row := tstateListsRow, standIns := [], harness := (true, "4703f8e3b27d93658ed78d4af827d65ff7a3bbfd9e29887c11b7b91149c218b9"), looks := false }, kinds := [], alts := [], laidByText := true, laidKinds := [.data, .pinned], laidTests := true, laidLooks := .later }
def TstateListsCardSaid : Prop := Claim7.holds Tryd.pinned (.plain (OpenSpec.ofChange tstateListsSpec)) tstateListsCard

/-- THE TIED CARD OF 'periscopelaw08.TstateBack'. -/
def tstateBackCard : Claim7 := { stood := { row := tstateBackRow, standIns := [], harness := (true, "4703f8e3b27d93658ed78d4af827d65ff7a3bbfd9e29887c11b7b91149c218b9"), looks := false }, kinds := [], alts := [], laidByText := true, laidKinds := [.data, .pinned], laidTests := true, laidLooks := .later }
def TstateBackCardSaid : Prop := Claim7.holds Tryd.pinned (.plain (OpenSpec.ofChange tstateBackSpec)) tstateBackCard

/-- THE SECOND FORM's CARD OF 'periscopelaw20.LineEscapes'. -/
def lineEscapesUptoCard : Claim7 := { stood := { row := lineEscapesUptoRow, standIns := [], harness := (true, "4703f8e3b27d93658ed78d4af827d65ff7a3bbfd9e29887c11b7b91149c218b9"), looks := false }, kinds := [], alts := [], laidByText := true, laidKinds := [.data, .data, .data], laidTests := true, laidLooks := .later }
def LineEscapesUptoCardSaid : Prop := Claim7.holds Tryd.pinned (.plain (OpenSpec.upto lineEscapesSpec)) lineEscapesUptoCard

/-- THE SECOND FORM's CARD OF 'periscopelaw20.LineValues'. -/
def lineValuesUptoCard : Claim7 := { stood := { row := lineValuesUptoRow, standIns := [], harness := (true, "4703f8e3b27d93658ed78d4af827d65ff7a3bbfd9e29887c11b7b91149c218b9"), looks := false }, kinds := [], alts := [], laidByText := true, laidKinds := [.data, .data, .data], laidTests := true, laidLooks := .later }
def LineValuesUptoCardSaid : Prop := Claim7.holds Tryd.pinned (.plain (OpenSpec.upto lineValuesSpec)) lineValuesUptoCard

/-- THE SECOND FORM's CARD OF 'periscopelaw20.LineCaps'. -/
def lineCapsUptoCard : Claim7 := { stood := { row := lineCapsUptoRow, standIns := [], harness := (true, "4703f8e3b27d93658ed78d4af827d65ff7a3bbfd9e29887c11b7b91149c218b9"), looks := false }, kinds := [], alts := [], laidByText := true, laidKinds := [.data, .data, .data], laidTests := true, laidLooks := .later }
def LineCapsUptoCardSaid : Prop := Claim7.holds Tryd.pinned (.plain (OpenSpec.upto lineCapsSpec)) lineCapsUptoCard

/-- THE SECOND FORM's CARD OF 'periscopelaw20.LineApart'. -/
def lineApartUptoCard : Claim7 := { stood := { row := lineApartUptoRow, standIns := [], harness := (true, "4703f8e3b27d93658ed78d4af827d65ff7a3bbfd9e29887c11b7b91149c218b9"), looks := false }, kinds := [], alts := [], laidByText := true, laidKinds := [.data, .data, .data], laidTests := true, laidLooks := .later }
def LineApartUptoCardSaid : Prop := Claim7.holds Tryd.pinned (.plain (OpenSpec.upto lineApartSpec)) lineApartUptoCard

/-- THE SECOND FORM's CARD OF 'periscopelaw08.TstateReads'. -/
def tstateReadsUptoCard : Claim7 := { stood := { row := tstateReadsUptoRow, standIns := [], harness := (true, "4703f8e3b27d93658ed78d4af827d65ff7a3bbfd9e29887c11b7b91149c218b9"), looks := false }, kinds := [], alts := [], laidByText := true, laidKinds := [.data, .pinned], laidTests := true, laidLooks := .later }
def TstateReadsUptoCardSaid : Prop := Claim7.holds Tryd.pinned (.plain (OpenSpec.upto tstateReadsSpec)) tstateReadsUptoCard

/-- THE SECOND FORM's CARD OF 'periscopelaw08.TstateLists'. -/
def tstateListsUptoCard : Claim7 := { stood := { row := tstateListsUptoRow, standIns := [], harness := (true, "4703f8e3b27d93658ed78d4af827d65ff7a3bbfd9e29887c11b7b91149c218b9"), looks := false }, kinds := [], alts := [], laidByText := true, laidKinds := [.data, .pinned], laidTests := true, laidLooks := .later }
def TstateListsUptoCardSaid : Prop := Claim7.holds Tryd.pinned (.plain (OpenSpec.upto tstateListsSpec)) tstateListsUptoCard

/-- THE SECOND FORM's CARD OF 'periscopelaw08.TstateBack'. -/
def tstateBackUptoCard : Claim7 := { stood := { row := tstateBackUptoRow, standIns := [], harness := (true, "4703f8e3b27d93658ed78d4af827d65ff7a3bbfd9e29887c11b7b91149c218b9"), looks := false }, kinds := [], alts := [], laidByText := true, laidKinds := [.data, .pinned], laidTests := true, laidLooks := .later }
def TstateBackUptoCardSaid : Prop := Claim7.holds Tryd.pinned (.plain (OpenSpec.upto tstateBackSpec)) tstateBackUptoCard
end Rows
end Go.Proofs.YtkhepehgafijfaaDoor
