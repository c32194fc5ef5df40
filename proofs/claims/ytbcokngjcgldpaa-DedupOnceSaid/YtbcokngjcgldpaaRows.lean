/-
  No cell of these rows narrows 'for every input' (looked for: loops, veiled, ifaces, maps, wideKeys, modest, calm, conditions, laid).
  DERIVED. THE GIVEN ROWS OF THIS SEAT. 10 by the template 'for every input the law returns true; each argument reads behind the call as it read before'; 0 by the template 'total and deterministic' (their statements: YtbcokngjcgldpaaTotals.lean).
  GIVEN WITH THE SEED: the statements are not yours to turn. If you find one false, say at which input.
  Laid BY PROGRAM, IN A SANDBOX (cutbox-rows.mjs): the forced cells as the released guide's own fill.sh prints them over the translation df1a5bf14521427a… (all of the seat's roots in one cut). By AI agents, Wed Nov 11 2026. No macro, syntax, notation, axiom, sorry.
-/
import Derived.Test.YtbcokngjcgldpaaChecked
import GoSem.Claim
import GoSem.ClaimJoined
import GoSem.ClaimMapViews
import Derived.JoinedTies
import Derived.KernelRfl
namespace Go.Proofs.Ytbcokngjcgldpaa
/- THE CELL 'sum', in the pinned program and in every row, IS THE sha256 OF THE DUMP (.gsa) THAT YtbcokngjcgldpaaProg.lean LOADS. Nothing in Lean hashes anything: it is a label: what it is worth is what the hold of that sum in a sandbox is worth. -/
noncomputable def Try.pinned : Pinned := { name := "ytbcokngjcgldpaa", sum := "df1a5bf14521427a700a927eb93b040f00b68720f429a159ec180c0fa622e62c", checked := Try.checked }
namespace Rows
def none {H : Type} : Left H := { results := [], args := [] }

/-- 'periscopelaw37.FlowSteps': WHATEVER THE INPUT: true; the input reads as it did. -/
def flowStepsSpec : ChangeSpec := { name := "flowSteps", fn := fun _ => fun
  | [d1, d2, d3] => { results := [.lit (.bool true)], args := [d1, d2, d3] }
  | _ => none }
def flowStepsRow : OpenClaim := { program := "ytbcokngjcgldpaa", sum := "df1a5bf14521427a700a927eb93b040f00b68720f429a159ec180c0fa622e62c", func := "periscope/periscopelaw37.FlowSteps", spec := "flowSteps", inPlace := ["sync/atomic.LoadInt64", "sync/atomic.StoreInt64"], unfollowed := true, recurses := true, plainKeys := false, apart := false }
def FlowStepsSaid : Prop := flowStepsRow.holds Try.pinned (OpenSpec.ofChange flowStepsSpec)

/-- ITS FALSE NEIGHBOUR: 'it returns false'. Refute it at one input. -/
def flowStepsWrong : ChangeSpec := { name := "flowSteps", fn := fun _ => fun
  | [d1, d2, d3] => { results := [.lit (.bool false)], args := [d1, d2, d3] }
  | _ => none }
def FlowStepsWrongFalsely : Prop := flowStepsRow.holds Try.pinned (OpenSpec.ofChange flowStepsWrong)

/-- 'periscopelaw29.DedupPlays': WHATEVER THE INPUT: true; the input reads as it did. -/
def dedupPlaysSpec : ChangeSpec := { name := "dedupPlays", fn := fun _ => fun
  | [d1, d2, d3] => { results := [.lit (.bool true)], args := [d1, d2, d3] }
  | _ => none }
def dedupPlaysRow : OpenClaim := { program := "ytbcokngjcgldpaa", sum := "df1a5bf14521427a700a927eb93b040f00b68720f429a159ec180c0fa622e62c", func := "periscope/periscopelaw29.DedupPlays", spec := "dedupPlays", inPlace := ["slices.overlaps[int]"], unfollowed := true, recurses := true, plainKeys := false, apart := false }
def DedupPlaysSaid : Prop := dedupPlaysRow.holds Try.pinned (OpenSpec.ofChange dedupPlaysSpec)

/-- ITS FALSE NEIGHBOUR: 'it returns false'. Refute it at one input. -/
def dedupPlaysWrong : ChangeSpec := { name := "dedupPlays", fn := fun _ => fun
  | [d1, d2, d3] => { results := [.lit (.bool false)], args := [d1, d2, d3] }
  | _ => none }
def DedupPlaysWrongFalsely : Prop := dedupPlaysRow.holds Try.pinned (OpenSpec.ofChange dedupPlaysWrong)

/-- 'periscopelaw29.DedupOnce': WHATEVER THE INPUT: true; the input reads as it did. -/
def dedupOnceSpec : ChangeSpec := { name := "dedupOnce", fn := fun _ => fun
  | [d] => { results := [.lit (.bool true)], args := [d] }
  | _ => none }
def dedupOnceRow : OpenClaim := { program := "ytbcokngjcgldpaa", sum := "df1a5bf14521427a700a927eb93b040f00b68720f429a159ec180c0fa622e62c", func := "periscope/periscopelaw29.DedupOnce", spec := "dedupOnce", inPlace := ["slices.overlaps[int]"], unfollowed := true, recurses := true, plainKeys := false, apart := false }
def DedupOnceSaid : Prop := dedupOnceRow.holds Try.pinned (OpenSpec.ofChange dedupOnceSpec)

/-- ITS FALSE NEIGHBOUR: 'it returns false'. Refute it at one input. -/
def dedupOnceWrong : ChangeSpec := { name := "dedupOnce", fn := fun _ => fun
  | [d] => { results := [.lit (.bool false)], args := [d] }
  | _ => none }
def DedupOnceWrongFalsely : Prop := dedupOnceRow.holds Try.pinned (OpenSpec.ofChange dedupOnceWrong)

/-- 'periscopelaw29.DedupOrder': WHATEVER THE INPUT: true; the input reads as it did. -/
def dedupOrderSpec : ChangeSpec := { name := "dedupOrder", fn := fun _ => fun
  | [d1, d2] => { results := [.lit (.bool true)], args := [d1, d2] }
  | _ => none }
def dedupOrderRow : OpenClaim := { program := "ytbcokngjcgldpaa", sum := "df1a5bf14521427a700a927eb93b040f00b68720f429a159ec180c0fa622e62c", func := "periscope/periscopelaw29.DedupOrder", spec := "dedupOrder", inPlace := ["slices.overlaps[int]"], unfollowed := true, recurses := true, plainKeys := false, apart := false }
def DedupOrderSaid : Prop := dedupOrderRow.holds Try.pinned (OpenSpec.ofChange dedupOrderSpec)

/-- ITS FALSE NEIGHBOUR: 'it returns false'. Refute it at one input. -/
def dedupOrderWrong : ChangeSpec := { name := "dedupOrder", fn := fun _ => fun
  | [d1, d2] => { results := [.lit (.bool false)], args := [d1, d2] }
  | _ => none }
def DedupOrderWrongFalsely : Prop := dedupOrderRow.holds Try.pinned (OpenSpec.ofChange dedupOrderWrong)

/-- 'periscopelaw31.TreePlaces': WHATEVER THE INPUT: true; the input reads as it did. -/
def treePlacesSpec : ChangeSpec := { name := "treePlaces", fn := fun _ => fun
  | [d1, d2] => { results := [.lit (.bool true)], args := [d1, d2] }
  | _ => none }
def treePlacesRow : OpenClaim := { program := "ytbcokngjcgldpaa", sum := "df1a5bf14521427a700a927eb93b040f00b68720f429a159ec180c0fa622e62c", func := "periscope/periscopelaw31.TreePlaces", spec := "treePlaces", unfollowed := true, recurses := true, plainKeys := false, apart := false }
def TreePlacesSaid : Prop := treePlacesRow.holds Try.pinned (OpenSpec.ofChange treePlacesSpec)

/-- ITS FALSE NEIGHBOUR: 'it returns false'. Refute it at one input. -/
def treePlacesWrong : ChangeSpec := { name := "treePlaces", fn := fun _ => fun
  | [d1, d2] => { results := [.lit (.bool false)], args := [d1, d2] }
  | _ => none }
def TreePlacesWrongFalsely : Prop := treePlacesRow.holds Try.pinned (OpenSpec.ofChange treePlacesWrong)

/-- 'periscopelaw31.TreeWalks': WHATEVER THE INPUT: true; the input reads as it did. -/
def treeWalksSpec : ChangeSpec := { name := "treeWalks", fn := fun _ => fun
  | [d1, d2] => { results := [.lit (.bool true)], args := [d1, d2] }
  | _ => none }
def treeWalksRow : OpenClaim := { program := "ytbcokngjcgldpaa", sum := "df1a5bf14521427a700a927eb93b040f00b68720f429a159ec180c0fa622e62c", func := "periscope/periscopelaw31.TreeWalks", spec := "treeWalks", unfollowed := true, recurses := true, plainKeys := false, apart := false }
def TreeWalksSaid : Prop := treeWalksRow.holds Try.pinned (OpenSpec.ofChange treeWalksSpec)

/-- ITS FALSE NEIGHBOUR: 'it returns false'. Refute it at one input. -/
def treeWalksWrong : ChangeSpec := { name := "treeWalks", fn := fun _ => fun
  | [d1, d2] => { results := [.lit (.bool false)], args := [d1, d2] }
  | _ => none }
def TreeWalksWrongFalsely : Prop := treeWalksRow.holds Try.pinned (OpenSpec.ofChange treeWalksWrong)

/-- 'periscopelaw31.TreeAll': WHATEVER THE INPUT: true; the input reads as it did. -/
def treeAllSpec : ChangeSpec := { name := "treeAll", fn := fun _ => fun
  | [d1, d2] => { results := [.lit (.bool true)], args := [d1, d2] }
  | _ => none }
def treeAllRow : OpenClaim := { program := "ytbcokngjcgldpaa", sum := "df1a5bf14521427a700a927eb93b040f00b68720f429a159ec180c0fa622e62c", func := "periscope/periscopelaw31.TreeAll", spec := "treeAll", unfollowed := true, recurses := true, plainKeys := false, apart := false }
def TreeAllSaid : Prop := treeAllRow.holds Try.pinned (OpenSpec.ofChange treeAllSpec)

/-- ITS FALSE NEIGHBOUR: 'it returns false'. Refute it at one input. -/
def treeAllWrong : ChangeSpec := { name := "treeAll", fn := fun _ => fun
  | [d1, d2] => { results := [.lit (.bool false)], args := [d1, d2] }
  | _ => none }
def TreeAllWrongFalsely : Prop := treeAllRow.holds Try.pinned (OpenSpec.ofChange treeAllWrong)

/-- 'periscopelaw32.VerdictSays': WHATEVER THE INPUT: true; the input reads as it did. -/
def verdictSaysSpec : ChangeSpec := { name := "verdictSays", fn := fun _ => fun
  | [d] => { results := [.lit (.bool true)], args := [d] }
  | _ => none }
def verdictSaysRow : OpenClaim := { program := "ytbcokngjcgldpaa", sum := "df1a5bf14521427a700a927eb93b040f00b68720f429a159ec180c0fa622e62c", func := "periscope/periscopelaw32.VerdictSays", spec := "verdictSays", unfollowed := true, recurses := true, plainKeys := false, apart := false }
def VerdictSaysSaid : Prop := verdictSaysRow.holds Try.pinned (OpenSpec.ofChange verdictSaysSpec)

/-- ITS FALSE NEIGHBOUR: 'it returns false'. Refute it at one input. -/
def verdictSaysWrong : ChangeSpec := { name := "verdictSays", fn := fun _ => fun
  | [d] => { results := [.lit (.bool false)], args := [d] }
  | _ => none }
def VerdictSaysWrongFalsely : Prop := verdictSaysRow.holds Try.pinned (OpenSpec.ofChange verdictSaysWrong)

/-- 'periscopelaw32.VerdictLess': WHATEVER THE INPUT: true; the input reads as it did. -/
def verdictLessSpec : ChangeSpec := { name := "verdictLess", fn := fun _ => fun
  | [d1, d2] => { results := [.lit (.bool true)], args := [d1, d2] }
  | _ => none }
def verdictLessRow : OpenClaim := { program := "ytbcokngjcgldpaa", sum := "df1a5bf14521427a700a927eb93b040f00b68720f429a159ec180c0fa622e62c", func := "periscope/periscopelaw32.VerdictLess", spec := "verdictLess", unfollowed := true, recurses := true, plainKeys := false, apart := false }
def VerdictLessSaid : Prop := verdictLessRow.holds Try.pinned (OpenSpec.ofChange verdictLessSpec)

/-- ITS FALSE NEIGHBOUR: 'it returns false'. Refute it at one input. -/
def verdictLessWrong : ChangeSpec := { name := "verdictLess", fn := fun _ => fun
  | [d1, d2] => { results := [.lit (.bool false)], args := [d1, d2] }
  | _ => none }
def VerdictLessWrongFalsely : Prop := verdictLessRow.holds Try.pinned (OpenSpec.ofChange verdictLessWrong)

/-- 'periscopelaw32.VerdictOrder': WHATEVER THE INPUT: true; the input reads as it did. -/
def verdictOrderSpec : ChangeSpec := { name := "verdictOrder", fn := fun _ => fun
  | [d1, d2] => { results := [.lit (.bool true)], args := [d1, d2] }
  | _ => none }
def verdictOrderRow : OpenClaim := { program := "ytbcokngjcgldpaa", sum := "df1a5bf14521427a700a927eb93b040f00b68720f429a159ec180c0fa622e62c", func := "periscope/periscopelaw32.VerdictOrder", spec := "verdictOrder", unfollowed := true, recurses := true, plainKeys := false, apart := false }
def VerdictOrderSaid : Prop := verdictOrderRow.holds Try.pinned (OpenSpec.ofChange verdictOrderSpec)

/-- ITS FALSE NEIGHBOUR: 'it returns false'. Refute it at one input. -/
def verdictOrderWrong : ChangeSpec := { name := "verdictOrder", fn := fun _ => fun
  | [d1, d2] => { results := [.lit (.bool false)], args := [d1, d2] }
  | _ => none }
def VerdictOrderWrongFalsely : Prop := verdictOrderRow.holds Try.pinned (OpenSpec.ofChange verdictOrderWrong)

/- THE SECOND FORM. 'bulk': how many values and letters a reading holds, each counted each time it is reached (what is shared counts as often as it is met; a slice's spare places count too). A statement '..UptoSaid' is the law's where the arguments, and the package variables that the reading takes, are together of bulk at most 1048576: NARROWER than '..Said'. Prove '..Said' where nothing that the law and all that it calls make is longer than what came in: it says more and counts as full. Else prove '..UptoSaid'. A law counts once. -/
mutual
def uptoBulk {H : Type} : DataW H → Nat
  | .lit (.string bytes) => bytes.length + 1
  | .lit _ => 1
  | .nil => 1
  | .ptr d => uptoBulk d + 1
  | .slice elems spare => uptoBulkAll elems + uptoBulkAll spare + 1
  | .agg parts => uptoBulkAll parts + 1
  | .iface _ d => uptoBulk d + 1
  | .map entries => uptoBulkEntries entries + 1
  | .held _ => 1
def uptoBulkAll {H : Type} : List (DataW H) → Nat
  | [] => 0
  | d :: r => uptoBulk d + uptoBulkAll r
def uptoBulkEntries {H : Type} : List (Lit × DataW H) → Nat
  | [] => 0
  | x :: r => uptoBulkEntry x + uptoBulkEntries r
def uptoBulkEntry {H : Type} : Lit × DataW H → Nat
  | (.string bytes, d) => bytes.length + uptoBulk d + 1
  | (_, d) => uptoBulk d + 1
 end
def uptoSmall : (H : Type) → List (DataW H) → Bool := fun _ ds => decide (uptoBulkAll ds ≤ 1048576)
def OpenSpec.upto (s : _root_.Go.ChangeSpec) : _root_.Go.OpenSpec := { _root_.Go.OpenSpec.ofChange s with cond := some uptoSmall }

/-- 'periscopelaw37.FlowSteps', WHERE WHAT IT READS IS OF BULK AT MOST 1048576: true; the input reads as it did. -/
def flowStepsUptoRow : OpenClaim := { program := "ytbcokngjcgldpaa", sum := "df1a5bf14521427a700a927eb93b040f00b68720f429a159ec180c0fa622e62c", func := "periscope/periscopelaw37.FlowSteps", spec := "flowSteps", inPlace := ["sync/atomic.LoadInt64", "sync/atomic.StoreInt64"], unfollowed := true, recurses := true, plainKeys := false, apart := false, narrowed := true }
def FlowStepsUptoSaid : Prop := flowStepsUptoRow.holds Try.pinned (OpenSpec.upto flowStepsSpec)

/-- 'periscopelaw29.DedupPlays', WHERE WHAT IT READS IS OF BULK AT MOST 1048576: true; the input reads as it did. -/
def dedupPlaysUptoRow : OpenClaim := { program := "ytbcokngjcgldpaa", sum := "df1a5bf14521427a700a927eb93b040f00b68720f429a159ec180c0fa622e62c", func := "periscope/periscopelaw29.DedupPlays", spec := "dedupPlays", inPlace := ["slices.overlaps[int]"], unfollowed := true, recurses := true, plainKeys := false, apart := false, narrowed := true }
def DedupPlaysUptoSaid : Prop := dedupPlaysUptoRow.holds Try.pinned (OpenSpec.upto dedupPlaysSpec)

/-- 'periscopelaw29.DedupOnce', WHERE WHAT IT READS IS OF BULK AT MOST 1048576: true; the input reads as it did. -/
def dedupOnceUptoRow : OpenClaim := { program := "ytbcokngjcgldpaa", sum := "df1a5bf14521427a700a927eb93b040f00b68720f429a159ec180c0fa622e62c", func := "periscope/periscopelaw29.DedupOnce", spec := "dedupOnce", inPlace := ["slices.overlaps[int]"], unfollowed := true, recurses := true, plainKeys := false, apart := false, narrowed := true }
def DedupOnceUptoSaid : Prop := dedupOnceUptoRow.holds Try.pinned (OpenSpec.upto dedupOnceSpec)

/-- 'periscopelaw29.DedupOrder', WHERE WHAT IT READS IS OF BULK AT MOST 1048576: true; the input reads as it did. -/
def dedupOrderUptoRow : OpenClaim := { program := "ytbcokngjcgldpaa", sum := "df1a5bf14521427a700a927eb93b040f00b68720f429a159ec180c0fa622e62c", func := "periscope/periscopelaw29.DedupOrder", spec := "dedupOrder", inPlace := ["slices.overlaps[int]"], unfollowed := true, recurses := true, plainKeys := false, apart := false, narrowed := true }
def DedupOrderUptoSaid : Prop := dedupOrderUptoRow.holds Try.pinned (OpenSpec.upto dedupOrderSpec)

/-- 'periscopelaw31.TreePlaces', WHERE WHAT IT READS IS OF BULK AT MOST 1048576: true; the input reads as it did. -/
def treePlacesUptoRow : OpenClaim := { program := "ytbcokngjcgldpaa", sum := "df1a5bf14521427a700a927eb93b040f00b68720f429a159ec180c0fa622e62c", func := "periscope/periscopelaw31.TreePlaces", spec := "treePlaces", unfollowed := true, recurses := true, plainKeys := false, apart := false, narrowed := true }
def TreePlacesUptoSaid : Prop := treePlacesUptoRow.holds Try.pinned (OpenSpec.upto treePlacesSpec)

/-- 'periscopelaw31.TreeWalks', WHERE WHAT IT READS IS OF BULK AT MOST 1048576: true; the input reads as it did. -/
def treeWalksUptoRow : OpenClaim := { program := "ytbcokngjcgldpaa", sum := "df1a5bf14521427a700a927eb93b040f00b68720f429a159ec180c0fa622e62c", func := "periscope/periscopelaw31.TreeWalks", spec := "treeWalks", unfollowed := true, recurses := true, plainKeys := false, apart := false, narrowed := true }
def TreeWalksUptoSaid : Prop := treeWalksUptoRow.holds Try.pinned (OpenSpec.upto treeWalksSpec)

/-- 'periscopelaw31.TreeAll', WHERE WHAT IT READS IS OF BULK AT MOST 1048576: true; the input reads as it did. -/
def treeAllUptoRow : OpenClaim := { program := "ytbcokngjcgldpaa", sum := "df1a5bf14521427a700a927eb93b040f00b68720f429a159ec180c0fa622e62c", func := "periscope/periscopelaw31.TreeAll", spec := "treeAll", unfollowed := true, recurses := true, plainKeys := false, apart := false, narrowed := true }
def TreeAllUptoSaid : Prop := treeAllUptoRow.holds Try.pinned (OpenSpec.upto treeAllSpec)

/-- 'periscopelaw32.VerdictSays', WHERE WHAT IT READS IS OF BULK AT MOST 1048576: true; the input reads as it did. -/
def verdictSaysUptoRow : OpenClaim := { program := "ytbcokngjcgldpaa", sum := "df1a5bf14521427a700a927eb93b040f00b68720f429a159ec180c0fa622e62c", func := "periscope/periscopelaw32.VerdictSays", spec := "verdictSays", unfollowed := true, recurses := true, plainKeys := false, apart := false, narrowed := true }
def VerdictSaysUptoSaid : Prop := verdictSaysUptoRow.holds Try.pinned (OpenSpec.upto verdictSaysSpec)

/-- 'periscopelaw32.VerdictLess', WHERE WHAT IT READS IS OF BULK AT MOST 1048576: true; the input reads as it did. -/
def verdictLessUptoRow : OpenClaim := { program := "ytbcokngjcgldpaa", sum := "df1a5bf14521427a700a927eb93b040f00b68720f429a159ec180c0fa622e62c", func := "periscope/periscopelaw32.VerdictLess", spec := "verdictLess", unfollowed := true, recurses := true, plainKeys := false, apart := false, narrowed := true }
def VerdictLessUptoSaid : Prop := verdictLessUptoRow.holds Try.pinned (OpenSpec.upto verdictLessSpec)

/-- 'periscopelaw32.VerdictOrder', WHERE WHAT IT READS IS OF BULK AT MOST 1048576: true; the input reads as it did. -/
def verdictOrderUptoRow : OpenClaim := { program := "ytbcokngjcgldpaa", sum := "df1a5bf14521427a700a927eb93b040f00b68720f429a159ec180c0fa622e62c", func := "periscope/periscopelaw32.VerdictOrder", spec := "verdictOrder", unfollowed := true, recurses := true, plainKeys := false, apart := false, narrowed := true }
def VerdictOrderUptoSaid : Prop := verdictOrderUptoRow.holds Try.pinned (OpenSpec.upto verdictOrderSpec)

end Rows
end Go.Proofs.Ytbcokngjcgldpaa
