/-
  DERIVED. GIVEN WITH THE SEED: THE CARDS: each row of YtbnaicgomabigaaDoorRows.lean that lists a variable, with what it lists TIED to the program's text (the seventh form; the later family's looks); each row that meets fmt, with fmt's text TOLD by the authors' own Lean function (tested against real Go, not proved from fmt's source: count such statements apart). THE CARD IS WHAT COUNTS. Prove the row's statement (the work); the ties are given (YtbnaicgomabigaaDoorTie.lean); close each card by the builder's one call (the guide's Derived/Test/ToyasCard.lean, 'card_holds'). Laid BY PROGRAM, IN A SANDBOX (cutbox-door.mjs). By AI agents, Wed Nov 11 2026. No macro, syntax, notation, axiom, sorry.
-/
import Derived.Test.YtbnaicgomabigaaDoorRows
import GoSem.ClaimSeven
namespace Go.Proofs.YtbnaicgomabigaaDoor
namespace Rows

/-- THE TIED CARD OF 'periscopelaw34.ProgSays'. -/
def progSaysCard : Claim7 := { stood := { row := progSaysRow, standIns := [], harness := (true, "7dca3caffd6f7346bfde191fd6a77d58504f9b8887bfc4b0cb276ef330a8a055"), looks := true }, kinds := [], alts := [], laidByText := true, laidKinds := [.data, .data, .data, .sentinel, .sentinel], laidTests := true, laidLooks := .later }
def ProgSaysCardSaid : Prop := Claim7.holds Tryd.pinned (.plain (OpenSpec.ofChange progSaysSpec)) progSaysCard

/-- THE TIED CARD OF 'periscopelaw34.ProgBack'. -/
def progBackCard : Claim7 := { stood := { row := progBackRow, standIns := [], harness := (true, "7dca3caffd6f7346bfde191fd6a77d58504f9b8887bfc4b0cb276ef330a8a055"), looks := true }, kinds := [], alts := [], laidByText := true, laidKinds := [.data, .data, .data, .sentinel, .sentinel], laidTests := true, laidLooks := .later }
def ProgBackCardSaid : Prop := Claim7.holds Tryd.pinned (.plain (OpenSpec.ofChange progBackSpec)) progBackCard

/-- THE TIED CARD OF 'periscopelaw34.ProgApart'. -/
def progApartCard : Claim7 := { stood := { row := progApartRow, standIns := [], harness := (true, "7dca3caffd6f7346bfde191fd6a77d58504f9b8887bfc4b0cb276ef330a8a055"), looks := true }, kinds := [], alts := [], laidByText := true, laidKinds := [.data, .data, .data, .sentinel, .sentinel], laidTests := true, laidLooks := .later }
def ProgApartCardSaid : Prop := Claim7.holds Tryd.pinned (.plain (OpenSpec.ofChange progApartSpec)) progApartCard

/-- THE TIED CARD OF 'periscopelaw23.InjectBack'. -/
def injectBackCard : Claim7 := { stood := { row := injectBackRow, standIns := [], harness := (true, "7dca3caffd6f7346bfde191fd6a77d58504f9b8887bfc4b0cb276ef330a8a055"), looks := true }, kinds := [], alts := [], laidByText := true, laidKinds := [.data, .pinned], laidTests := true, laidLooks := .later }
def InjectBackCardSaid : Prop := Claim7.holds Tryd.pinned (.plain (OpenSpec.ofChange injectBackSpec)) injectBackCard

/-- THE TIED CARD OF 'periscopelaw23.InjectTwice'. -/
def injectTwiceCard : Claim7 := { stood := { row := injectTwiceRow, standIns := [], harness := (true, "7dca3caffd6f7346bfde191fd6a77d58504f9b8887bfc4b0cb276ef330a8a055"), looks := true }, kinds := [], alts := [], laidByText := true, laidKinds := [.data, .pinned], laidTests := true, laidLooks := .later }
def InjectTwiceCardSaid : Prop := Claim7.holds Tryd.pinned (.plain (OpenSpec.ofChange injectTwiceSpec)) injectTwiceCard

/-- THE TIED CARD OF 'periscopelaw05.MsgWrites'. -/
def msgWritesCard : Claim7 := { stood := { row := msgWritesRow, standIns := [], harness := (true, "7dca3caffd6f7346bfde191fd6a77d58504f9b8887bfc4b0cb276ef330a8a055"), looks := true }, kinds := [], alts := [], laidByText := true, laidKinds := [.data, .data, .data, .data, .sentinel, .sentinel, .pinned], laidTests := true, laidLooks := .later }
def MsgWritesCardSaid : Prop := Claim7.holds Tryd.pinned (.plain (OpenSpec.ofChange msgWritesSpec)) msgWritesCard

/-- THE TIED CARD OF 'periscopelaw05.MsgAnswers'. -/
def msgAnswersCard : Claim7 := { stood := { row := msgAnswersRow, standIns := [], harness := (true, "7dca3caffd6f7346bfde191fd6a77d58504f9b8887bfc4b0cb276ef330a8a055"), looks := true }, kinds := [], alts := [], laidByText := true, laidKinds := [.data, .data, .data, .data, .sentinel, .sentinel, .pinned], laidTests := true, laidLooks := .later }
def MsgAnswersCardSaid : Prop := Claim7.holds Tryd.pinned (.plain (OpenSpec.ofChange msgAnswersSpec)) msgAnswersCard

/-- THE TIED CARD OF 'periscopelaw05.MsgReads'. -/
def msgReadsCard : Claim7 := { stood := { row := msgReadsRow, standIns := [], harness := (true, "7dca3caffd6f7346bfde191fd6a77d58504f9b8887bfc4b0cb276ef330a8a055"), looks := true }, kinds := [], alts := [], laidByText := true, laidKinds := [.data, .data, .data, .data, .sentinel, .sentinel, .pinned], laidTests := true, laidLooks := .later }
def MsgReadsCardSaid : Prop := Claim7.holds Tryd.pinned (.plain (OpenSpec.ofChange msgReadsSpec)) msgReadsCard

/-- THE TIED CARD OF 'periscopelaw05.MsgBack'. -/
def msgBackCard : Claim7 := { stood := { row := msgBackRow, standIns := [], harness := (true, "7dca3caffd6f7346bfde191fd6a77d58504f9b8887bfc4b0cb276ef330a8a055"), looks := true }, kinds := [], alts := [], laidByText := true, laidKinds := [.data, .data, .data, .data, .sentinel, .sentinel, .pinned], laidTests := true, laidLooks := .later }
def MsgBackCardSaid : Prop := Claim7.holds Tryd.pinned (.plain (OpenSpec.ofChange msgBackSpec)) msgBackCard

/-- THE SECOND FORM's CARD OF 'periscopelaw34.ProgSays'. -/
def progSaysUptoCard : Claim7 := { stood := { row := progSaysUptoRow, standIns := [], harness := (true, "7dca3caffd6f7346bfde191fd6a77d58504f9b8887bfc4b0cb276ef330a8a055"), looks := true }, kinds := [], alts := [], laidByText := true, laidKinds := [.data, .data, .data, .sentinel, .sentinel], laidTests := true, laidLooks := .later }
def ProgSaysUptoCardSaid : Prop := Claim7.holds Tryd.pinned (.plain (OpenSpec.upto progSaysSpec)) progSaysUptoCard

/-- THE SECOND FORM's CARD OF 'periscopelaw34.ProgBack'. -/
def progBackUptoCard : Claim7 := { stood := { row := progBackUptoRow, standIns := [], harness := (true, "7dca3caffd6f7346bfde191fd6a77d58504f9b8887bfc4b0cb276ef330a8a055"), looks := true }, kinds := [], alts := [], laidByText := true, laidKinds := [.data, .data, .data, .sentinel, .sentinel], laidTests := true, laidLooks := .later }
def ProgBackUptoCardSaid : Prop := Claim7.holds Tryd.pinned (.plain (OpenSpec.upto progBackSpec)) progBackUptoCard

/-- THE SECOND FORM's CARD OF 'periscopelaw34.ProgApart'. -/
def progApartUptoCard : Claim7 := { stood := { row := progApartUptoRow, standIns := [], harness := (true, "7dca3caffd6f7346bfde191fd6a77d58504f9b8887bfc4b0cb276ef330a8a055"), looks := true }, kinds := [], alts := [], laidByText := true, laidKinds := [.data, .data, .data, .sentinel, .sentinel], laidTests := true, laidLooks := .later }
def ProgApartUptoCardSaid : Prop := Claim7.holds Tryd.pinned (.plain (OpenSpec.upto progApartSpec)) progApartUptoCard

/-- THE SECOND FORM's CARD OF 'periscopelaw23.InjectBack'. -/
def injectBackUptoCard : Claim7 := { stood := { row := injectBackUptoRow, standIns := [], harness := (true, "7dca3caffd6f7346bfde191fd6a77d58504f9b8887bfc4b0cb276ef330a8a055"), looks := true }, kinds := [], alts := [], laidByText := true, laidKinds := [.data, .pinned], laidTests := true, laidLooks := .later }
def InjectBackUptoCardSaid : Prop := Claim7.holds Tryd.pinned (.plain (OpenSpec.upto injectBackSpec)) injectBackUptoCard

/-- THE SECOND FORM's CARD OF 'periscopelaw23.InjectTwice'. -/
def injectTwiceUptoCard : Claim7 := { stood := { row := injectTwiceUptoRow, standIns := [], harness := (true, "7dca3caffd6f7346bfde191fd6a77d58504f9b8887bfc4b0cb276ef330a8a055"), looks := true }, kinds := [], alts := [], laidByText := true, laidKinds := [.data, .pinned], laidTests := true, laidLooks := .later }
def InjectTwiceUptoCardSaid : Prop := Claim7.holds Tryd.pinned (.plain (OpenSpec.upto injectTwiceSpec)) injectTwiceUptoCard

/-- THE SECOND FORM's CARD OF 'periscopelaw05.MsgWrites'. -/
def msgWritesUptoCard : Claim7 := { stood := { row := msgWritesUptoRow, standIns := [], harness := (true, "7dca3caffd6f7346bfde191fd6a77d58504f9b8887bfc4b0cb276ef330a8a055"), looks := true }, kinds := [], alts := [], laidByText := true, laidKinds := [.data, .data, .data, .data, .sentinel, .sentinel, .pinned], laidTests := true, laidLooks := .later }
def MsgWritesUptoCardSaid : Prop := Claim7.holds Tryd.pinned (.plain (OpenSpec.upto msgWritesSpec)) msgWritesUptoCard

/-- THE SECOND FORM's CARD OF 'periscopelaw05.MsgAnswers'. -/
def msgAnswersUptoCard : Claim7 := { stood := { row := msgAnswersUptoRow, standIns := [], harness := (true, "7dca3caffd6f7346bfde191fd6a77d58504f9b8887bfc4b0cb276ef330a8a055"), looks := true }, kinds := [], alts := [], laidByText := true, laidKinds := [.data, .data, .data, .data, .sentinel, .sentinel, .pinned], laidTests := true, laidLooks := .later }
def MsgAnswersUptoCardSaid : Prop := Claim7.holds Tryd.pinned (.plain (OpenSpec.upto msgAnswersSpec)) msgAnswersUptoCard

/-- THE SECOND FORM's CARD OF 'periscopelaw05.MsgReads'. -/
def msgReadsUptoCard : Claim7 := { stood := { row := msgReadsUptoRow, standIns := [], harness := (true, "7dca3caffd6f7346bfde191fd6a77d58504f9b8887bfc4b0cb276ef330a8a055"), looks := true }, kinds := [], alts := [], laidByText := true, laidKinds := [.data, .data, .data, .data, .sentinel, .sentinel, .pinned], laidTests := true, laidLooks := .later }
def MsgReadsUptoCardSaid : Prop := Claim7.holds Tryd.pinned (.plain (OpenSpec.upto msgReadsSpec)) msgReadsUptoCard

/-- THE SECOND FORM's CARD OF 'periscopelaw05.MsgBack'. -/
def msgBackUptoCard : Claim7 := { stood := { row := msgBackUptoRow, standIns := [], harness := (true, "7dca3caffd6f7346bfde191fd6a77d58504f9b8887bfc4b0cb276ef330a8a055"), looks := true }, kinds := [], alts := [], laidByText := true, laidKinds := [.data, .data, .data, .data, .sentinel, .sentinel, .pinned], laidTests := true, laidLooks := .later }
def MsgBackUptoCardSaid : Prop := Claim7.holds Tryd.pinned (.plain (OpenSpec.upto msgBackSpec)) msgBackUptoCard
end Rows
end Go.Proofs.YtbnaicgomabigaaDoor
