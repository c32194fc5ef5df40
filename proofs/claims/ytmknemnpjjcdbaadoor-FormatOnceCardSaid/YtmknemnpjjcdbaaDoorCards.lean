/-
  DERIVED. GIVEN WITH THE SEED: THE CARDS: each row of YtmknemnpjjcdbaaDoorRows.lean that lists a variable, with what it lists TIED to the program's text (the seventh form; the later family's looks); each row that meets fmt, with fmt's text TOLD by the authors' own Lean function (tested against real Go, not proved from fmt's source: count such statements apart). THE CARD IS WHAT COUNTS. Prove the row's statement (the work); the ties are given (YtmknemnpjjcdbaaDoorTie.lean); close each card by the builder's one call (the guide's Derived/Test/ToyasCard.lean, 'card_holds'). Laid BY PROGRAM, IN A SANDBOX (cutbox-door.mjs). By AI agents, Wed Nov 11 2026. No macro, syntax, notation, axiom, sorry.
-/
import Derived.Test.YtmknemnpjjcdbaaDoorRows
import GoSem.ClaimSeven
namespace Go.Proofs.YtmknemnpjjcdbaaDoor
namespace Rows

/-- THE TIED CARD OF 'periscopelaw19.FormatCompiles'. -/
def formatCompilesCard : Claim7 := { stood := { row := formatCompilesRow, standIns := [], harness := (true, "9152c8c509465512fdf16511517f213cfb9fdb31e80c0e11f97b709620f1e15e"), looks := false }, kinds := [], alts := [], laidByText := true, laidKinds := [.data, .pinned], laidTests := true, laidLooks := .later }
def FormatCompilesCardSaid : Prop := Claim7.holds Tryd.pinned (.plain (OpenSpec.ofChange formatCompilesSpec)) formatCompilesCard

/-- THE TIED CARD OF 'periscopelaw19.FormatOnce'. -/
def formatOnceCard : Claim7 := { stood := { row := formatOnceRow, standIns := [], harness := (true, "9152c8c509465512fdf16511517f213cfb9fdb31e80c0e11f97b709620f1e15e"), looks := false }, kinds := [], alts := [], laidByText := true, laidKinds := [.data, .pinned], laidTests := true, laidLooks := .later }
def FormatOnceCardSaid : Prop := Claim7.holds Tryd.pinned (.plain (OpenSpec.ofChange formatOnceSpec)) formatOnceCard

/-- THE TIED CARD OF 'periscopelaw19.FormatBack'. -/
def formatBackCard : Claim7 := { stood := { row := formatBackRow, standIns := [], harness := (true, "9152c8c509465512fdf16511517f213cfb9fdb31e80c0e11f97b709620f1e15e"), looks := false }, kinds := [], alts := [], laidByText := true, laidKinds := [.data, .pinned], laidTests := true, laidLooks := .later }
def FormatBackCardSaid : Prop := Claim7.holds Tryd.pinned (.plain (OpenSpec.ofChange formatBackSpec)) formatBackCard

/-- THE SECOND FORM's CARD OF 'periscopelaw19.FormatCompiles'. -/
def formatCompilesUptoCard : Claim7 := { stood := { row := formatCompilesUptoRow, standIns := [], harness := (true, "9152c8c509465512fdf16511517f213cfb9fdb31e80c0e11f97b709620f1e15e"), looks := false }, kinds := [], alts := [], laidByText := true, laidKinds := [.data, .pinned], laidTests := true, laidLooks := .later }
def FormatCompilesUptoCardSaid : Prop := Claim7.holds Tryd.pinned (.plain (OpenSpec.upto formatCompilesSpec)) formatCompilesUptoCard

/-- THE SECOND FORM's CARD OF 'periscopelaw19.FormatOnce'. -/
def formatOnceUptoCard : Claim7 := { stood := { row := formatOnceUptoRow, standIns := [], harness := (true, "9152c8c509465512fdf16511517f213cfb9fdb31e80c0e11f97b709620f1e15e"), looks := false }, kinds := [], alts := [], laidByText := true, laidKinds := [.data, .pinned], laidTests := true, laidLooks := .later }
def FormatOnceUptoCardSaid : Prop := Claim7.holds Tryd.pinned (.plain (OpenSpec.upto formatOnceSpec)) formatOnceUptoCard

/-- THE SECOND FORM's CARD OF 'periscopelaw19.FormatBack'. -/
def formatBackUptoCard : Claim7 := { stood := { row := formatBackUptoRow, standIns := [], harness := (true, "9152c8c509465512fdf16511517f213cfb9fdb31e80c0e11f97b709620f1e15e"), looks := false }, kinds := [], alts := [], laidByText := true, laidKinds := [.data, .pinned], laidTests := true, laidLooks := .later }
def FormatBackUptoCardSaid : Prop := Claim7.holds Tryd.pinned (.plain (OpenSpec.upto formatBackSpec)) formatBackUptoCard
end Rows
end Go.Proofs.YtmknemnpjjcdbaaDoor
