/-
  DERIVED. GIVEN WITH THE SEED: THE CARDS: each row of YtfbhdkkmcfnghaaGreatDoorRows.lean that lists a variable, with what it lists TIED to the program's text (the seventh form; the later family's looks); each row that meets fmt, with fmt's text TOLD by the authors' own Lean function (tested against real Go, not proved from fmt's source: count such statements apart). THE CARD IS WHAT COUNTS. Prove the row's statement (the work); the ties are given (YtfbhdkkmcfnghaaGreatDoorTie.lean); close each card by the builder's one call (the guide's Derived/Test/ToyasCard.lean, 'card_holds'). Laid BY PROGRAM, IN A SANDBOX (cutbox-door.mjs). By AI agents, Wed Nov 11 2026. No macro, syntax, notation, axiom, sorry.
-/
import Derived.Test.YtfbhdkkmcfnghaaGreatDoorRows
import GoSem.ClaimSeven
namespace Go.Proofs.YtfbhdkkmcfnghaaGreatDoor
namespace Rows

/-- THE TIED CARD OF 'periscopelaw23.InjectSays'. -/
def injectSaysCard : Claim7 := { stood := { row := injectSaysRow, standIns := [], harness := (true, "d7342cf4529db8be6f240626aed81efcb17a9cbd4dd9c42860acc4bd960472aa"), looks := false }, kinds := [], alts := [], laidByText := true, laidKinds := [.data, .pinned], laidTests := true, laidLooks := .later }
def InjectSaysCardSaid : Prop := Claim7.holds Tryz.pinned (.plain (OpenSpec.ofChange injectSaysSpec)) injectSaysCard

/-- THE TIED CARD OF 'periscopelaw18.ControlStays'. -/
def controlStaysCard : Claim7 := { stood := { row := controlStaysRow, standIns := [], harness := (true, "d7342cf4529db8be6f240626aed81efcb17a9cbd4dd9c42860acc4bd960472aa"), looks := false }, kinds := [], alts := [], laidByText := true, laidKinds := [.data, .pinned], laidTests := true, laidLooks := .later }
def ControlStaysCardSaid : Prop := Claim7.holds Tryz.pinned (.plain (OpenSpec.ofChange controlStaysSpec)) controlStaysCard

/-- THE TIED CARD OF 'periscopelaw18.ControlAlone'. -/
def controlAloneCard : Claim7 := { stood := { row := controlAloneRow, standIns := [], harness := (true, "d7342cf4529db8be6f240626aed81efcb17a9cbd4dd9c42860acc4bd960472aa"), looks := false }, kinds := [], alts := [], laidByText := true, laidKinds := [.data, .pinned], laidTests := true, laidLooks := .later }
def ControlAloneCardSaid : Prop := Claim7.holds Tryz.pinned (.plain (OpenSpec.ofChange controlAloneSpec)) controlAloneCard

/-- THE TIED CARD OF 'periscopelaw13.ConfWrites'. -/
def confWritesCard : Claim7 := { stood := { row := confWritesRow, standIns := [], harness := (true, "d7342cf4529db8be6f240626aed81efcb17a9cbd4dd9c42860acc4bd960472aa"), looks := false }, kinds := [], alts := [], laidByText := true, laidKinds := [.data, .data, .data, .data, .pinned], laidTests := true, laidLooks := .later }
def ConfWritesCardSaid : Prop := Claim7.holds Tryz.pinned (.plain (OpenSpec.ofChange confWritesSpec)) confWritesCard

/-- THE TIED CARD OF 'periscopelaw13.ConfBack'. -/
def confBackCard : Claim7 := { stood := { row := confBackRow, standIns := [], harness := (true, "d7342cf4529db8be6f240626aed81efcb17a9cbd4dd9c42860acc4bd960472aa"), looks := false }, kinds := [], alts := [], laidByText := true, laidKinds := [.data, .data, .data, .data, .pinned], laidTests := true, laidLooks := .later }
def ConfBackCardSaid : Prop := Claim7.holds Tryz.pinned (.plain (OpenSpec.ofChange confBackSpec)) confBackCard

/-- THE SECOND FORM's CARD OF 'periscopelaw23.InjectSays'. -/
def injectSaysUptoCard : Claim7 := { stood := { row := injectSaysUptoRow, standIns := [], harness := (true, "d7342cf4529db8be6f240626aed81efcb17a9cbd4dd9c42860acc4bd960472aa"), looks := false }, kinds := [], alts := [], laidByText := true, laidKinds := [.data, .pinned], laidTests := true, laidLooks := .later }
def InjectSaysUptoCardSaid : Prop := Claim7.holds Tryz.pinned (.plain (OpenSpec.upto injectSaysSpec)) injectSaysUptoCard

/-- THE SECOND FORM's CARD OF 'periscopelaw18.ControlStays'. -/
def controlStaysUptoCard : Claim7 := { stood := { row := controlStaysUptoRow, standIns := [], harness := (true, "d7342cf4529db8be6f240626aed81efcb17a9cbd4dd9c42860acc4bd960472aa"), looks := false }, kinds := [], alts := [], laidByText := true, laidKinds := [.data, .pinned], laidTests := true, laidLooks := .later }
def ControlStaysUptoCardSaid : Prop := Claim7.holds Tryz.pinned (.plain (OpenSpec.upto controlStaysSpec)) controlStaysUptoCard

/-- THE SECOND FORM's CARD OF 'periscopelaw18.ControlAlone'. -/
def controlAloneUptoCard : Claim7 := { stood := { row := controlAloneUptoRow, standIns := [], harness := (true, "d7342cf4529db8be6f240626aed81efcb17a9cbd4dd9c42860acc4bd960472aa"), looks := false }, kinds := [], alts := [], laidByText := true, laidKinds := [.data, .pinned], laidTests := true, laidLooks := .later }
def ControlAloneUptoCardSaid : Prop := Claim7.holds Tryz.pinned (.plain (OpenSpec.upto controlAloneSpec)) controlAloneUptoCard

/-- THE SECOND FORM's CARD OF 'periscopelaw13.ConfWrites'. -/
def confWritesUptoCard : Claim7 := { stood := { row := confWritesUptoRow, standIns := [], harness := (true, "d7342cf4529db8be6f240626aed81efcb17a9cbd4dd9c42860acc4bd960472aa"), looks := false }, kinds := [], alts := [], laidByText := true, laidKinds := [.data, .data, .data, .data, .pinned], laidTests := true, laidLooks := .later }
def ConfWritesUptoCardSaid : Prop := Claim7.holds Tryz.pinned (.plain (OpenSpec.upto confWritesSpec)) confWritesUptoCard

/-- THE SECOND FORM's CARD OF 'periscopelaw13.ConfBack'. -/
def confBackUptoCard : Claim7 := { stood := { row := confBackUptoRow, standIns := [], harness := (true, "d7342cf4529db8be6f240626aed81efcb17a9cbd4dd9c42860acc4bd960472aa"), looks := false }, kinds := [], alts := [], laidByText := true, laidKinds := [.data, .data, .data, .data, .pinned], laidTests := true, laidLooks := .later }
def ConfBackUptoCardSaid : Prop := Claim7.holds Tryz.pinned (.plain (OpenSpec.upto confBackSpec)) confBackUptoCard
end Rows
end Go.Proofs.YtfbhdkkmcfnghaaGreatDoor
