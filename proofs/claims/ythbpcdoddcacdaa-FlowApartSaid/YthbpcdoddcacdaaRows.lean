/-
  No cell of these rows narrows 'for every input' (looked for: loops, veiled, ifaces, maps, wideKeys, modest, calm, conditions, laid).
  DERIVED. THE GIVEN ROWS OF THIS SEAT. 11 by the template 'for every input the law returns true; each argument reads behind the call as it read before'; 0 by the template 'total and deterministic' (their statements: YthbpcdoddcacdaaTotals.lean).
  GIVEN WITH THE SEED: the statements are not yours to turn. If you find one false, say at which input.
  Laid BY PROGRAM, IN A SANDBOX (cutbox-rows.mjs): the forced cells as the released guide's own fill.sh prints them over the translation 7241d91f2ab5f7b4… (all of the seat's roots in one cut). By AI agents, Wed Nov 11 2026. No macro, syntax, notation, axiom, sorry.
-/
import Derived.Test.YthbpcdoddcacdaaChecked
import GoSem.Claim
import GoSem.ClaimJoined
import GoSem.ClaimMapViews
import Derived.JoinedTies
import Derived.KernelRfl
namespace Go.Proofs.Ythbpcdoddcacdaa
/- THE CELL 'sum', in the pinned program and in every row, IS THE sha256 OF THE DUMP (.gsa) THAT YthbpcdoddcacdaaProg.lean LOADS. Nothing in Lean hashes anything: it is a label: what it is worth is what the hold of that sum in a sandbox is worth. -/
noncomputable def Try.pinned : Pinned := { name := "ythbpcdoddcacdaa", sum := "7241d91f2ab5f7b4a2e26d4fa172ff7c1f4ec9a160b933e2835d5fc8c54a2a25", checked := Try.checked }
namespace Rows
def none {H : Type} : Left H := { results := [], args := [] }

/-- 'periscopelaw37.FlowSteps': WHATEVER THE INPUT: true; the input reads as it did. -/
def flowStepsSpec : ChangeSpec := { name := "flowSteps", fn := fun _ => fun
  | [d1, d2, d3] => { results := [.lit (.bool true)], args := [d1, d2, d3] }
  | _ => none }
def flowStepsRow : OpenClaim := { program := "ythbpcdoddcacdaa", sum := "7241d91f2ab5f7b4a2e26d4fa172ff7c1f4ec9a160b933e2835d5fc8c54a2a25", func := "periscope/periscopelaw37.FlowSteps", spec := "flowSteps", inPlace := ["sync/atomic.LoadInt64", "sync/atomic.StoreInt64"], unfollowed := true, recurses := true, plainKeys := false, apart := false }
def FlowStepsSaid : Prop := flowStepsRow.holds Try.pinned (OpenSpec.ofChange flowStepsSpec)

/-- ITS FALSE NEIGHBOUR: 'it returns false'. Refute it at one input. -/
def flowStepsWrong : ChangeSpec := { name := "flowSteps", fn := fun _ => fun
  | [d1, d2, d3] => { results := [.lit (.bool false)], args := [d1, d2, d3] }
  | _ => none }
def FlowStepsWrongFalsely : Prop := flowStepsRow.holds Try.pinned (OpenSpec.ofChange flowStepsWrong)

/-- 'periscopelaw31.TreePlaces': WHATEVER THE INPUT: true; the input reads as it did. -/
def treePlacesSpec : ChangeSpec := { name := "treePlaces", fn := fun _ => fun
  | [d1, d2] => { results := [.lit (.bool true)], args := [d1, d2] }
  | _ => none }
def treePlacesRow : OpenClaim := { program := "ythbpcdoddcacdaa", sum := "7241d91f2ab5f7b4a2e26d4fa172ff7c1f4ec9a160b933e2835d5fc8c54a2a25", func := "periscope/periscopelaw31.TreePlaces", spec := "treePlaces", unfollowed := true, recurses := true, plainKeys := false, apart := false }
def TreePlacesSaid : Prop := treePlacesRow.holds Try.pinned (OpenSpec.ofChange treePlacesSpec)

/-- ITS FALSE NEIGHBOUR: 'it returns false'. Refute it at one input. -/
def treePlacesWrong : ChangeSpec := { name := "treePlaces", fn := fun _ => fun
  | [d1, d2] => { results := [.lit (.bool false)], args := [d1, d2] }
  | _ => none }
def TreePlacesWrongFalsely : Prop := treePlacesRow.holds Try.pinned (OpenSpec.ofChange treePlacesWrong)

/-- 'periscopelaw31.TreeWalks': WHATEVER THE INPUT: true; the input reads as it did. -/
def treeWalksSpec : ChangeSpec := { name := "treeWalks", fn := fun _ => fun
  | [d1, d2] => { results := [.lit (.bool true)], args := [d1, d2] }
  | _ => none }
def treeWalksRow : OpenClaim := { program := "ythbpcdoddcacdaa", sum := "7241d91f2ab5f7b4a2e26d4fa172ff7c1f4ec9a160b933e2835d5fc8c54a2a25", func := "periscope/periscopelaw31.TreeWalks", spec := "treeWalks", unfollowed := true, recurses := true, plainKeys := false, apart := false }
def TreeWalksSaid : Prop := treeWalksRow.holds Try.pinned (OpenSpec.ofChange treeWalksSpec)

/-- ITS FALSE NEIGHBOUR: 'it returns false'. Refute it at one input. -/
def treeWalksWrong : ChangeSpec := { name := "treeWalks", fn := fun _ => fun
  | [d1, d2] => { results := [.lit (.bool false)], args := [d1, d2] }
  | _ => none }
def TreeWalksWrongFalsely : Prop := treeWalksRow.holds Try.pinned (OpenSpec.ofChange treeWalksWrong)

/-- 'periscopelaw31.TreeAll': WHATEVER THE INPUT: true; the input reads as it did. -/
def treeAllSpec : ChangeSpec := { name := "treeAll", fn := fun _ => fun
  | [d1, d2] => { results := [.lit (.bool true)], args := [d1, d2] }
  | _ => none }
def treeAllRow : OpenClaim := { program := "ythbpcdoddcacdaa", sum := "7241d91f2ab5f7b4a2e26d4fa172ff7c1f4ec9a160b933e2835d5fc8c54a2a25", func := "periscope/periscopelaw31.TreeAll", spec := "treeAll", unfollowed := true, recurses := true, plainKeys := false, apart := false }
def TreeAllSaid : Prop := treeAllRow.holds Try.pinned (OpenSpec.ofChange treeAllSpec)

/-- ITS FALSE NEIGHBOUR: 'it returns false'. Refute it at one input. -/
def treeAllWrong : ChangeSpec := { name := "treeAll", fn := fun _ => fun
  | [d1, d2] => { results := [.lit (.bool false)], args := [d1, d2] }
  | _ => none }
def TreeAllWrongFalsely : Prop := treeAllRow.holds Try.pinned (OpenSpec.ofChange treeAllWrong)

/-- 'periscopelaw32.VerdictSays': WHATEVER THE INPUT: true; the input reads as it did. -/
def verdictSaysSpec : ChangeSpec := { name := "verdictSays", fn := fun _ => fun
  | [d] => { results := [.lit (.bool true)], args := [d] }
  | _ => none }
def verdictSaysRow : OpenClaim := { program := "ythbpcdoddcacdaa", sum := "7241d91f2ab5f7b4a2e26d4fa172ff7c1f4ec9a160b933e2835d5fc8c54a2a25", func := "periscope/periscopelaw32.VerdictSays", spec := "verdictSays", unfollowed := true, recurses := true, plainKeys := false, apart := false }
def VerdictSaysSaid : Prop := verdictSaysRow.holds Try.pinned (OpenSpec.ofChange verdictSaysSpec)

/-- ITS FALSE NEIGHBOUR: 'it returns false'. Refute it at one input. -/
def verdictSaysWrong : ChangeSpec := { name := "verdictSays", fn := fun _ => fun
  | [d] => { results := [.lit (.bool false)], args := [d] }
  | _ => none }
def VerdictSaysWrongFalsely : Prop := verdictSaysRow.holds Try.pinned (OpenSpec.ofChange verdictSaysWrong)

/-- 'periscopelaw32.VerdictLess': WHATEVER THE INPUT: true; the input reads as it did. -/
def verdictLessSpec : ChangeSpec := { name := "verdictLess", fn := fun _ => fun
  | [d1, d2] => { results := [.lit (.bool true)], args := [d1, d2] }
  | _ => none }
def verdictLessRow : OpenClaim := { program := "ythbpcdoddcacdaa", sum := "7241d91f2ab5f7b4a2e26d4fa172ff7c1f4ec9a160b933e2835d5fc8c54a2a25", func := "periscope/periscopelaw32.VerdictLess", spec := "verdictLess", unfollowed := true, recurses := true, plainKeys := false, apart := false }
def VerdictLessSaid : Prop := verdictLessRow.holds Try.pinned (OpenSpec.ofChange verdictLessSpec)

/-- ITS FALSE NEIGHBOUR: 'it returns false'. Refute it at one input. -/
def verdictLessWrong : ChangeSpec := { name := "verdictLess", fn := fun _ => fun
  | [d1, d2] => { results := [.lit (.bool false)], args := [d1, d2] }
  | _ => none }
def VerdictLessWrongFalsely : Prop := verdictLessRow.holds Try.pinned (OpenSpec.ofChange verdictLessWrong)

/-- 'periscopelaw32.VerdictOrder': WHATEVER THE INPUT: true; the input reads as it did. -/
def verdictOrderSpec : ChangeSpec := { name := "verdictOrder", fn := fun _ => fun
  | [d1, d2] => { results := [.lit (.bool true)], args := [d1, d2] }
  | _ => none }
def verdictOrderRow : OpenClaim := { program := "ythbpcdoddcacdaa", sum := "7241d91f2ab5f7b4a2e26d4fa172ff7c1f4ec9a160b933e2835d5fc8c54a2a25", func := "periscope/periscopelaw32.VerdictOrder", spec := "verdictOrder", unfollowed := true, recurses := true, plainKeys := false, apart := false }
def VerdictOrderSaid : Prop := verdictOrderRow.holds Try.pinned (OpenSpec.ofChange verdictOrderSpec)

/-- ITS FALSE NEIGHBOUR: 'it returns false'. Refute it at one input. -/
def verdictOrderWrong : ChangeSpec := { name := "verdictOrder", fn := fun _ => fun
  | [d1, d2] => { results := [.lit (.bool false)], args := [d1, d2] }
  | _ => none }
def VerdictOrderWrongFalsely : Prop := verdictOrderRow.holds Try.pinned (OpenSpec.ofChange verdictOrderWrong)

/-- 'periscopelaw36.BookPlays': WHATEVER THE INPUT: true; the input reads as it did. -/
def bookPlaysSpec : ChangeSpec := { name := "bookPlays", fn := fun _ => fun
  | [d1, d2, d3] => { results := [.lit (.bool true)], args := [d1, d2, d3] }
  | _ => none }
def bookPlaysRow : OpenClaim := { program := "ythbpcdoddcacdaa", sum := "7241d91f2ab5f7b4a2e26d4fa172ff7c1f4ec9a160b933e2835d5fc8c54a2a25", func := "periscope/periscopelaw36.BookPlays", spec := "bookPlays", inPlace := ["sync/atomic.LoadInt64", "sync/atomic.StoreInt64"], unfollowed := true, recurses := true, plainKeys := false, apart := false }
def BookPlaysSaid : Prop := bookPlaysRow.holds Try.pinned (OpenSpec.ofChange bookPlaysSpec)

/-- ITS FALSE NEIGHBOUR: 'it returns false'. Refute it at one input. -/
def bookPlaysWrong : ChangeSpec := { name := "bookPlays", fn := fun _ => fun
  | [d1, d2, d3] => { results := [.lit (.bool false)], args := [d1, d2, d3] }
  | _ => none }
def BookPlaysWrongFalsely : Prop := bookPlaysRow.holds Try.pinned (OpenSpec.ofChange bookPlaysWrong)

/-- 'periscopelaw36.BookApart': WHATEVER THE INPUT: true; the input reads as it did. -/
def bookApartSpec : ChangeSpec := { name := "bookApart", fn := fun _ => fun
  | [d1, d2] => { results := [.lit (.bool true)], args := [d1, d2] }
  | _ => none }
def bookApartRow : OpenClaim := { program := "ythbpcdoddcacdaa", sum := "7241d91f2ab5f7b4a2e26d4fa172ff7c1f4ec9a160b933e2835d5fc8c54a2a25", func := "periscope/periscopelaw36.BookApart", spec := "bookApart", inPlace := ["sync/atomic.LoadInt64", "sync/atomic.StoreInt64"], unfollowed := true, recurses := true, plainKeys := false, apart := false }
def BookApartSaid : Prop := bookApartRow.holds Try.pinned (OpenSpec.ofChange bookApartSpec)

/-- ITS FALSE NEIGHBOUR: 'it returns false'. Refute it at one input. -/
def bookApartWrong : ChangeSpec := { name := "bookApart", fn := fun _ => fun
  | [d1, d2] => { results := [.lit (.bool false)], args := [d1, d2] }
  | _ => none }
def BookApartWrongFalsely : Prop := bookApartRow.holds Try.pinned (OpenSpec.ofChange bookApartWrong)

/-- 'periscopelaw36.BookLast': WHATEVER THE INPUT: true; the input reads as it did. -/
def bookLastSpec : ChangeSpec := { name := "bookLast", fn := fun _ => fun
  | [d1, d2, d3] => { results := [.lit (.bool true)], args := [d1, d2, d3] }
  | _ => none }
def bookLastRow : OpenClaim := { program := "ythbpcdoddcacdaa", sum := "7241d91f2ab5f7b4a2e26d4fa172ff7c1f4ec9a160b933e2835d5fc8c54a2a25", func := "periscope/periscopelaw36.BookLast", spec := "bookLast", inPlace := ["sync/atomic.LoadInt64", "sync/atomic.StoreInt64"], unfollowed := true, recurses := true, plainKeys := false, apart := false }
def BookLastSaid : Prop := bookLastRow.holds Try.pinned (OpenSpec.ofChange bookLastSpec)

/-- ITS FALSE NEIGHBOUR: 'it returns false'. Refute it at one input. -/
def bookLastWrong : ChangeSpec := { name := "bookLast", fn := fun _ => fun
  | [d1, d2, d3] => { results := [.lit (.bool false)], args := [d1, d2, d3] }
  | _ => none }
def BookLastWrongFalsely : Prop := bookLastRow.holds Try.pinned (OpenSpec.ofChange bookLastWrong)

/-- 'periscopelaw37.FlowApart': WHATEVER THE INPUT: true; the input reads as it did. -/
def flowApartSpec : ChangeSpec := { name := "flowApart", fn := fun _ => fun
  | [d1, d2] => { results := [.lit (.bool true)], args := [d1, d2] }
  | _ => none }
def flowApartRow : OpenClaim := { program := "ythbpcdoddcacdaa", sum := "7241d91f2ab5f7b4a2e26d4fa172ff7c1f4ec9a160b933e2835d5fc8c54a2a25", func := "periscope/periscopelaw37.FlowApart", spec := "flowApart", inPlace := ["sync/atomic.LoadInt64", "sync/atomic.StoreInt64"], unfollowed := true, recurses := true, plainKeys := false, apart := false }
def FlowApartSaid : Prop := flowApartRow.holds Try.pinned (OpenSpec.ofChange flowApartSpec)

/-- ITS FALSE NEIGHBOUR: 'it returns false'. Refute it at one input. -/
def flowApartWrong : ChangeSpec := { name := "flowApart", fn := fun _ => fun
  | [d1, d2] => { results := [.lit (.bool false)], args := [d1, d2] }
  | _ => none }
def FlowApartWrongFalsely : Prop := flowApartRow.holds Try.pinned (OpenSpec.ofChange flowApartWrong)

/- THE SECOND FORM. 'bulk': how many values and letters a reading holds, each counted each time it is reached (what is shared counts as often as it is met; a slice's spare places count too). A statement '..UptoSaid' is the law's where the arguments, and the package variables that the reading takes, are together of bulk at most 1048576: NARROWER than '..Said'. Prove '..Said' where nothing that the law and all that it calls make is longer than what came in: it says more and counts as full. Else prove '..UptoSaid'. A law counts once. -/
mutual
def uptoBulk {H : Type} : DataW H → Nat
  | .lit (.string bytes) => bytes.length + 1
  | .lit _ => 1
  | .nil => 1
  | .ptr d => uptoBulk d + 1
  | .slice elems spare => uptoBulkAll elems + uptoBulkAll spare + 1
  | .agg parts => uptoBulkAll parts + 1
  | .iface _ d => uptoBulk d + 1
  | .map entries => uptoBulkEntries entries + 1
  | .held _ => 1
def uptoBulkAll {H : Type} : List (DataW H) → Nat
  | [] => 0
  | d :: r => uptoBulk d + uptoBulkAll r
def uptoBulkEntries {H : Type} : List (Lit × DataW H) → Nat
  | [] => 0
  | x :: r => uptoBulkEntry x + uptoBulkEntries r
def uptoBulkEntry {H : Type} : Lit × DataW H → Nat
  | (.string bytes, d) => bytes.length + uptoBulk d + 1
  | (_, d) => uptoBulk d + 1
 end
def uptoSmall : (H : Type) → List (DataW H) → Bool := fun _ ds => decide (uptoBulkAll ds ≤ 1048576)
def OpenSpec.upto (s : _root_.Go.ChangeSpec) : _root_.Go.OpenSpec := { _root_.Go.OpenSpec.ofChange s with cond := some uptoSmall }

/-- 'periscopelaw37.FlowSteps', WHERE WHAT IT READS IS OF BULK AT MOST 1048576: true; the input reads as it did. -/
def flowStepsUptoRow : OpenClaim := { program := "ythbpcdoddcacdaa", sum := "7241d91f2ab5f7b4a2e26d4fa172ff7c1f4ec9a160b933e2835d5fc8c54a2a25", func := "periscope/periscopelaw37.FlowSteps", spec := "flowSteps", inPlace := ["sync/atomic.LoadInt64", "sync/atomic.StoreInt64"], unfollowed := true, recurses := true, plainKeys := false, apart := false, narrowed := true }
def FlowStepsUptoSaid : Prop := flowStepsUptoRow.holds Try.pinned (OpenSpec.upto flowStepsSpec)

/-- 'periscopelaw31.TreePlaces', WHERE WHAT IT READS IS OF BULK AT MOST 1048576: true; the input reads as it did. -/
def treePlacesUptoRow : OpenClaim := { program := "ythbpcdoddcacdaa", sum := "7241d91f2ab5f7b4a2e26d4fa172ff7c1f4ec9a160b933e2835d5fc8c54a2a25", func := "periscope/periscopelaw31.TreePlaces", spec := "treePlaces", unfollowed := true, recurses := true, plainKeys := false, apart := false, narrowed := true }
def TreePlacesUptoSaid : Prop := treePlacesUptoRow.holds Try.pinned (OpenSpec.upto treePlacesSpec)

/-- 'periscopelaw31.TreeWalks', WHERE WHAT IT READS IS OF BULK AT MOST 1048576: true; the input reads as it did. -/
def treeWalksUptoRow : OpenClaim := { program := "ythbpcdoddcacdaa", sum := "7241d91f2ab5f7b4a2e26d4fa172ff7c1f4ec9a160b933e2835d5fc8c54a2a25", func := "periscope/periscopelaw31.TreeWalks", spec := "treeWalks", unfollowed := true, recurses := true, plainKeys := false, apart := false, narrowed := true }
def TreeWalksUptoSaid : Prop := treeWalksUptoRow.holds Try.pinned (OpenSpec.upto treeWalksSpec)

/-- 'periscopelaw31.TreeAll', WHERE WHAT IT READS IS OF BULK AT MOST 1048576: true; the input reads as it did. -/
def treeAllUptoRow : OpenClaim := { program := "ythbpcdoddcacdaa", sum := "7241d91f2ab5f7b4a2e26d4fa172ff7c1f4ec9a160b933e2835d5fc8c54a2a25", func := "periscope/periscopelaw31.TreeAll", spec := "treeAll", unfollowed := true, recurses := true, plainKeys := false, apart := false, narrowed := true }
def TreeAllUptoSaid : Prop := treeAllUptoRow.holds Try.pinned (OpenSpec.upto treeAllSpec)

/-- 'periscopelaw32.VerdictSays', WHERE WHAT IT READS IS OF BULK AT MOST 1048576: true; the input reads as it did. -/
def verdictSaysUptoRow : OpenClaim := { program := "ythbpcdoddcacdaa", sum := "7241d91f2ab5f7b4a2e26d4fa172ff7c1f4ec9a160b933e2835d5fc8c54a2a25", func := "periscope/periscopelaw32.VerdictSays", spec := "verdictSays", unfollowed := true, recurses := true, plainKeys := false, apart := false, narrowed := true }
def VerdictSaysUptoSaid : Prop := verdictSaysUptoRow.holds Try.pinned (OpenSpec.upto verdictSaysSpec)

/-- 'periscopelaw32.VerdictLess', WHERE WHAT IT READS IS OF BULK AT MOST 1048576: true; the input reads as it did. -/
def verdictLessUptoRow : OpenClaim := { program := "ythbpcdoddcacdaa", sum := "7241d91f2ab5f7b4a2e26d4fa172ff7c1f4ec9a160b933e2835d5fc8c54a2a25", func := "periscope/periscopelaw32.VerdictLess", spec := "verdictLess", unfollowed := true, recurses := true, plainKeys := false, apart := false, narrowed := true }
def VerdictLessUptoSaid : Prop := verdictLessUptoRow.holds Try.pinned (OpenSpec.upto verdictLessSpec)

/-- 'periscopelaw32.VerdictOrder', WHERE WHAT IT READS IS OF BULK AT MOST 1048576: true; the input reads as it did. -/
def verdictOrderUptoRow : OpenClaim := { program := "ythbpcdoddcacdaa", sum := "7241d91f2ab5f7b4a2e26d4fa172ff7c1f4ec9a160b933e2835d5fc8c54a2a25", func := "periscope/periscopelaw32.VerdictOrder", spec := "verdictOrder", unfollowed := true, recurses := true, plainKeys := false, apart := false, narrowed := true }
def VerdictOrderUptoSaid : Prop := verdictOrderUptoRow.holds Try.pinned (OpenSpec.upto verdictOrderSpec)

/-- 'periscopelaw36.BookPlays', WHERE WHAT IT READS IS OF BULK AT MOST 1048576: true; the input reads as it did. -/
def bookPlaysUptoRow : OpenClaim := { program := "ythbpcdoddcacdaa", sum := "7241d91f2ab5f7b4a2e26d4fa172ff7c1f4ec9a160b933e2835d5fc8c54a2a25", func := "periscope/periscopelaw36.BookPlays", spec := "bookPlays", inPlace := ["sync/atomic.LoadInt64", "sync/atomic.StoreInt64"], unfollowed := true, recurses := true, plainKeys := false, apart := false, narrowed := true }
def BookPlaysUptoSaid : Prop := bookPlaysUptoRow.holds Try.pinned (OpenSpec.upto bookPlaysSpec)

/-- 'periscopelaw36.BookApart', WHERE WHAT IT READS IS OF BULK AT MOST 1048576: true; the input reads as it did. -/
def bookApartUptoRow : OpenClaim := { program := "ythbpcdoddcacdaa", sum := "7241d91f2ab5f7b4a2e26d4fa172ff7c1f4ec9a160b933e2835d5fc8c54a2a25", func := "periscope/periscopelaw36.BookApart", spec := "bookApart", inPlace := ["sync/atomic.LoadInt64", "sync/atomic.StoreInt64"], unfollowed := true, recurses := true, plainKeys := false, apart := false, narrowed := true }
def BookApartUptoSaid : Prop := bookApartUptoRow.holds Try.pinned (OpenSpec.upto bookApartSpec)

/-- 'periscopelaw36.BookLast', WHERE WHAT IT READS IS OF BULK AT MOST 1048576: true; the input reads as it did. -/
def bookLastUptoRow : OpenClaim := { program := "ythbpcdoddcacdaa", sum := "7241d91f2ab5f7b4a2e26d4fa172ff7c1f4ec9a160b933e2835d5fc8c54a2a25", func := "periscope/periscopelaw36.BookLast", spec := "bookLast", inPlace := ["sync/atomic.LoadInt64", "sync/atomic.StoreInt64"], unfollowed := true, recurses := true, plainKeys := false, apart := false, narrowed := true }
def BookLastUptoSaid : Prop := bookLastUptoRow.holds Try.pinned (OpenSpec.upto bookLastSpec)

/-- 'periscopelaw37.FlowApart', WHERE WHAT IT READS IS OF BULK AT MOST 1048576: true; the input reads as it did. -/
def flowApartUptoRow : OpenClaim := { program := "ythbpcdoddcacdaa", sum := "7241d91f2ab5f7b4a2e26d4fa172ff7c1f4ec9a160b933e2835d5fc8c54a2a25", func := "periscope/periscopelaw37.FlowApart", spec := "flowApart", inPlace := ["sync/atomic.LoadInt64", "sync/atomic.StoreInt64"], unfollowed := true, recurses := true, plainKeys := false, apart := false, narrowed := true }
def FlowApartUptoSaid : Prop := flowApartUptoRow.holds Try.pinned (OpenSpec.upto flowApartSpec)

end Rows
end Go.Proofs.Ythbpcdoddcacdaa
