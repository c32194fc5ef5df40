/-
  No cell of these rows narrows 'for every input' (looked for: loops, veiled, ifaces, maps, wideKeys, modest, calm, conditions, laid).
  DERIVED. THE GIVEN ROWS OF THIS SEAT. 10 by the template 'for every input the law returns true; each argument reads behind the call as it read before'; 0 by the template 'total and deterministic' (their statements: YtpfcipllfdallaaTotals.lean).
  GIVEN WITH THE SEED: the statements are not yours to turn. If you find one false, say at which input.
  Laid BY PROGRAM, IN A SANDBOX (cutbox-rows.mjs): the forced cells as the released guide's own fill.sh prints them over the translation 71dc85c91121d8fb… (all of the seat's roots in one cut). By AI agents, Wed Nov 11 2026. No macro, syntax, notation, axiom, sorry.
-/
import Derived.Test.YtpfcipllfdallaaChecked
import GoSem.Claim
import GoSem.ClaimJoined
import GoSem.ClaimMapViews
import Derived.JoinedTies
import Derived.KernelRfl
namespace Go.Proofs.Ytpfcipllfdallaa
/- THE CELL 'sum', in the pinned program and in every row, IS THE sha256 OF THE DUMP (.gsa) THAT YtpfcipllfdallaaProg.lean LOADS. Nothing in Lean hashes anything: it is a label: what it is worth is what the hold of that sum in a sandbox is worth. -/
noncomputable def Try.pinned : Pinned := { name := "ytpfcipllfdallaa", sum := "71dc85c91121d8fbf90de6fc5b86aeb6c7ab5b69909e741fc33e52264641b347", checked := Try.checked }
namespace Rows
def none {H : Type} : Left H := { results := [], args := [] }

/-- 'periscopelaw02.VarintForms': WHATEVER THE INPUT: true; the input reads as it did. -/
def varintFormsSpec : ChangeSpec := { name := "varintForms", fn := fun _ => fun
  | [d1, d2, d3] => { results := [.lit (.bool true)], args := [d1, d2, d3] }
  | _ => none }
def varintFormsRow : OpenClaim := { program := "ytpfcipllfdallaa", sum := "71dc85c91121d8fbf90de6fc5b86aeb6c7ab5b69909e741fc33e52264641b347", func := "periscope/periscopelaw02.VarintForms", spec := "varintForms", recurses := true, plainKeys := false, apart := false }
def VarintFormsSaid : Prop := varintFormsRow.holds Try.pinned (OpenSpec.ofChange varintFormsSpec)

/-- ITS FALSE NEIGHBOUR: 'it returns false'. Refute it at one input. -/
def varintFormsWrong : ChangeSpec := { name := "varintForms", fn := fun _ => fun
  | [d1, d2, d3] => { results := [.lit (.bool false)], args := [d1, d2, d3] }
  | _ => none }
def VarintFormsWrongFalsely : Prop := varintFormsRow.holds Try.pinned (OpenSpec.ofChange varintFormsWrong)

/-- 'periscopelaw02.VarintTexts': WHATEVER THE INPUT: true; the input reads as it did. -/
def varintTextsSpec : ChangeSpec := { name := "varintTexts", fn := fun _ => fun
  | [d1, d2, d3] => { results := [.lit (.bool true)], args := [d1, d2, d3] }
  | _ => none }
def varintTextsRow : OpenClaim := { program := "ytpfcipllfdallaa", sum := "71dc85c91121d8fbf90de6fc5b86aeb6c7ab5b69909e741fc33e52264641b347", func := "periscope/periscopelaw02.VarintTexts", spec := "varintTexts", recurses := true, plainKeys := false, apart := false }
def VarintTextsSaid : Prop := varintTextsRow.holds Try.pinned (OpenSpec.ofChange varintTextsSpec)

/-- ITS FALSE NEIGHBOUR: 'it returns false'. Refute it at one input. -/
def varintTextsWrong : ChangeSpec := { name := "varintTexts", fn := fun _ => fun
  | [d1, d2, d3] => { results := [.lit (.bool false)], args := [d1, d2, d3] }
  | _ => none }
def VarintTextsWrongFalsely : Prop := varintTextsRow.holds Try.pinned (OpenSpec.ofChange varintTextsWrong)

/-- 'periscopelaw02.VarintBack': WHATEVER THE INPUT: true; the input reads as it did. -/
def varintBackSpec : ChangeSpec := { name := "varintBack", fn := fun _ => fun
  | [d1, d2, d3] => { results := [.lit (.bool true)], args := [d1, d2, d3] }
  | _ => none }
def varintBackRow : OpenClaim := { program := "ytpfcipllfdallaa", sum := "71dc85c91121d8fbf90de6fc5b86aeb6c7ab5b69909e741fc33e52264641b347", func := "periscope/periscopelaw02.VarintBack", spec := "varintBack", plainKeys := false, apart := false }
def VarintBackSaid : Prop := varintBackRow.holds Try.pinned (OpenSpec.ofChange varintBackSpec)

/-- ITS FALSE NEIGHBOUR: 'it returns false'. Refute it at one input. -/
def varintBackWrong : ChangeSpec := { name := "varintBack", fn := fun _ => fun
  | [d1, d2, d3] => { results := [.lit (.bool false)], args := [d1, d2, d3] }
  | _ => none }
def VarintBackWrongFalsely : Prop := varintBackRow.holds Try.pinned (OpenSpec.ofChange varintBackWrong)

/-- 'periscopelaw37.FlowSteps': WHATEVER THE INPUT: true; the input reads as it did. -/
def flowStepsSpec : ChangeSpec := { name := "flowSteps", fn := fun _ => fun
  | [d1, d2, d3] => { results := [.lit (.bool true)], args := [d1, d2, d3] }
  | _ => none }
def flowStepsRow : OpenClaim := { program := "ytpfcipllfdallaa", sum := "71dc85c91121d8fbf90de6fc5b86aeb6c7ab5b69909e741fc33e52264641b347", func := "periscope/periscopelaw37.FlowSteps", spec := "flowSteps", inPlace := ["sync/atomic.LoadInt64", "sync/atomic.StoreInt64"], unfollowed := true, recurses := true, plainKeys := false, apart := false }
def FlowStepsSaid : Prop := flowStepsRow.holds Try.pinned (OpenSpec.ofChange flowStepsSpec)

/-- ITS FALSE NEIGHBOUR: 'it returns false'. Refute it at one input. -/
def flowStepsWrong : ChangeSpec := { name := "flowSteps", fn := fun _ => fun
  | [d1, d2, d3] => { results := [.lit (.bool false)], args := [d1, d2, d3] }
  | _ => none }
def FlowStepsWrongFalsely : Prop := flowStepsRow.holds Try.pinned (OpenSpec.ofChange flowStepsWrong)

/-- 'periscopelaw09.SpanrecWrites': WHATEVER THE INPUT: true; the input reads as it did. -/
def spanrecWritesSpec : ChangeSpec := { name := "spanrecWrites", fn := fun _ => fun
  | [d] => { results := [.lit (.bool true)], args := [d] }
  | _ => none }
def spanrecWritesRow : OpenClaim := { program := "ytpfcipllfdallaa", sum := "71dc85c91121d8fbf90de6fc5b86aeb6c7ab5b69909e741fc33e52264641b347", func := "periscope/periscopelaw09.SpanrecWrites", spec := "spanrecWrites", unfollowed := true, recurses := true, plainKeys := false, apart := false }
def SpanrecWritesSaid : Prop := spanrecWritesRow.holds Try.pinned (OpenSpec.ofChange spanrecWritesSpec)

/-- ITS FALSE NEIGHBOUR: 'it returns false'. Refute it at one input. -/
def spanrecWritesWrong : ChangeSpec := { name := "spanrecWrites", fn := fun _ => fun
  | [d] => { results := [.lit (.bool false)], args := [d] }
  | _ => none }
def SpanrecWritesWrongFalsely : Prop := spanrecWritesRow.holds Try.pinned (OpenSpec.ofChange spanrecWritesWrong)

/-- 'periscopelaw09.SpanrecReads': WHATEVER THE INPUT: true; the input reads as it did. -/
def spanrecReadsSpec : ChangeSpec := { name := "spanrecReads", fn := fun _ => fun
  | [d1, d2] => { results := [.lit (.bool true)], args := [d1, d2] }
  | _ => none }
def spanrecReadsRow : OpenClaim := { program := "ytpfcipllfdallaa", sum := "71dc85c91121d8fbf90de6fc5b86aeb6c7ab5b69909e741fc33e52264641b347", func := "periscope/periscopelaw09.SpanrecReads", spec := "spanrecReads", unfollowed := true, recurses := true, plainKeys := false, apart := false }
def SpanrecReadsSaid : Prop := spanrecReadsRow.holds Try.pinned (OpenSpec.ofChange spanrecReadsSpec)

/-- ITS FALSE NEIGHBOUR: 'it returns false'. Refute it at one input. -/
def spanrecReadsWrong : ChangeSpec := { name := "spanrecReads", fn := fun _ => fun
  | [d1, d2] => { results := [.lit (.bool false)], args := [d1, d2] }
  | _ => none }
def SpanrecReadsWrongFalsely : Prop := spanrecReadsRow.holds Try.pinned (OpenSpec.ofChange spanrecReadsWrong)

/-- 'periscopelaw09.SpanrecBack': WHATEVER THE INPUT: true; the input reads as it did. -/
def spanrecBackSpec : ChangeSpec := { name := "spanrecBack", fn := fun _ => fun
  | [d1, d2, d3] => { results := [.lit (.bool true)], args := [d1, d2, d3] }
  | _ => none }
def spanrecBackRow : OpenClaim := { program := "ytpfcipllfdallaa", sum := "71dc85c91121d8fbf90de6fc5b86aeb6c7ab5b69909e741fc33e52264641b347", func := "periscope/periscopelaw09.SpanrecBack", spec := "spanrecBack", unfollowed := true, recurses := true, plainKeys := false, apart := false }
def SpanrecBackSaid : Prop := spanrecBackRow.holds Try.pinned (OpenSpec.ofChange spanrecBackSpec)

/-- ITS FALSE NEIGHBOUR: 'it returns false'. Refute it at one input. -/
def spanrecBackWrong : ChangeSpec := { name := "spanrecBack", fn := fun _ => fun
  | [d1, d2, d3] => { results := [.lit (.bool false)], args := [d1, d2, d3] }
  | _ => none }
def SpanrecBackWrongFalsely : Prop := spanrecBackRow.holds Try.pinned (OpenSpec.ofChange spanrecBackWrong)

/-- 'periscopelaw29.DedupPlays': WHATEVER THE INPUT: true; the input reads as it did. -/
def dedupPlaysSpec : ChangeSpec := { name := "dedupPlays", fn := fun _ => fun
  | [d1, d2, d3] => { results := [.lit (.bool true)], args := [d1, d2, d3] }
  | _ => none }
def dedupPlaysRow : OpenClaim := { program := "ytpfcipllfdallaa", sum := "71dc85c91121d8fbf90de6fc5b86aeb6c7ab5b69909e741fc33e52264641b347", func := "periscope/periscopelaw29.DedupPlays", spec := "dedupPlays", inPlace := ["slices.overlaps[int]"], unfollowed := true, recurses := true, plainKeys := false, apart := false }
def DedupPlaysSaid : Prop := dedupPlaysRow.holds Try.pinned (OpenSpec.ofChange dedupPlaysSpec)

/-- ITS FALSE NEIGHBOUR: 'it returns false'. Refute it at one input. -/
def dedupPlaysWrong : ChangeSpec := { name := "dedupPlays", fn := fun _ => fun
  | [d1, d2, d3] => { results := [.lit (.bool false)], args := [d1, d2, d3] }
  | _ => none }
def DedupPlaysWrongFalsely : Prop := dedupPlaysRow.holds Try.pinned (OpenSpec.ofChange dedupPlaysWrong)

/-- 'periscopelaw29.DedupOnce': WHATEVER THE INPUT: true; the input reads as it did. -/
def dedupOnceSpec : ChangeSpec := { name := "dedupOnce", fn := fun _ => fun
  | [d] => { results := [.lit (.bool true)], args := [d] }
  | _ => none }
def dedupOnceRow : OpenClaim := { program := "ytpfcipllfdallaa", sum := "71dc85c91121d8fbf90de6fc5b86aeb6c7ab5b69909e741fc33e52264641b347", func := "periscope/periscopelaw29.DedupOnce", spec := "dedupOnce", inPlace := ["slices.overlaps[int]"], unfollowed := true, recurses := true, plainKeys := false, apart := false }
def DedupOnceSaid : Prop := dedupOnceRow.holds Try.pinned (OpenSpec.ofChange dedupOnceSpec)

/-- ITS FALSE NEIGHBOUR: 'it returns false'. Refute it at one input. -/
def dedupOnceWrong : ChangeSpec := { name := "dedupOnce", fn := fun _ => fun
  | [d] => { results := [.lit (.bool false)], args := [d] }
  | _ => none }
def DedupOnceWrongFalsely : Prop := dedupOnceRow.holds Try.pinned (OpenSpec.ofChange dedupOnceWrong)

/-- 'periscopelaw29.DedupOrder': WHATEVER THE INPUT: true; the input reads as it did. -/
def dedupOrderSpec : ChangeSpec := { name := "dedupOrder", fn := fun _ => fun
  | [d1, d2] => { results := [.lit (.bool true)], args := [d1, d2] }
  | _ => none }
def dedupOrderRow : OpenClaim := { program := "ytpfcipllfdallaa", sum := "71dc85c91121d8fbf90de6fc5b86aeb6c7ab5b69909e741fc33e52264641b347", func := "periscope/periscopelaw29.DedupOrder", spec := "dedupOrder", inPlace := ["slices.overlaps[int]"], unfollowed := true, recurses := true, plainKeys := false, apart := false }
def DedupOrderSaid : Prop := dedupOrderRow.holds Try.pinned (OpenSpec.ofChange dedupOrderSpec)

/-- ITS FALSE NEIGHBOUR: 'it returns false'. Refute it at one input. -/
def dedupOrderWrong : ChangeSpec := { name := "dedupOrder", fn := fun _ => fun
  | [d1, d2] => { results := [.lit (.bool false)], args := [d1, d2] }
  | _ => none }
def DedupOrderWrongFalsely : Prop := dedupOrderRow.holds Try.pinned (OpenSpec.ofChange dedupOrderWrong)

/- THE SECOND FORM. 'bulk': how many values and letters a reading holds, each counted each time it is reached (what is shared counts as often as it is met; a slice's spare places count too). A statement '..UptoSaid' is the law's where the arguments, and the package variables that the reading takes, are together of bulk at most 1048576: NARROWER than '..Said'. Prove '..Said' where nothing that the law and all that it calls make is longer than what came in: it says more and counts as full. Else prove '..UptoSaid'. A law counts once. -/
mutual
def uptoBulk {H : Type} : DataW H → Nat
  | .lit (.string bytes) => bytes.length + 1
  | .lit _ => 1
  | .nil => 1
  | .ptr d => uptoBulk d + 1
  | .slice elems spare => uptoBulkAll elems + uptoBulkAll spare + 1
  | .agg parts => uptoBulkAll parts + 1
  | .iface _ d => uptoBulk d + 1
  | .map entries => uptoBulkEntries entries + 1
  | .held _ => 1
def uptoBulkAll {H : Type} : List (DataW H) → Nat
  | [] => 0
  | d :: r => uptoBulk d + uptoBulkAll r
def uptoBulkEntries {H : Type} : List (Lit × DataW H) → Nat
  | [] => 0
  | x :: r => uptoBulkEntry x + uptoBulkEntries r
def uptoBulkEntry {H : Type} : Lit × DataW H → Nat
  | (.string bytes, d) => bytes.length + uptoBulk d + 1
  | (_, d) => uptoBulk d + 1
 end
def uptoSmall : (H : Type) → List (DataW H) → Bool := fun _ ds => decide (uptoBulkAll ds ≤ 1048576)
def OpenSpec.upto (s : _root_.Go.ChangeSpec) : _root_.Go.OpenSpec := { _root_.Go.OpenSpec.ofChange s with cond := some uptoSmall }

/-- 'periscopelaw02.VarintForms', WHERE WHAT IT READS IS OF BULK AT MOST 1048576: true; the input reads as it did. -/
def varintFormsUptoRow : OpenClaim := { program := "ytpfcipllfdallaa", sum := "71dc85c91121d8fbf90de6fc5b86aeb6c7ab5b69909e741fc33e52264641b347", func := "periscope/periscopelaw02.VarintForms", spec := "varintForms", recurses := true, plainKeys := false, apart := false, narrowed := true }
def VarintFormsUptoSaid : Prop := varintFormsUptoRow.holds Try.pinned (OpenSpec.upto varintFormsSpec)

/-- 'periscopelaw02.VarintTexts', WHERE WHAT IT READS IS OF BULK AT MOST 1048576: true; the input reads as it did. -/
def varintTextsUptoRow : OpenClaim := { program := "ytpfcipllfdallaa", sum := "71dc85c91121d8fbf90de6fc5b86aeb6c7ab5b69909e741fc33e52264641b347", func := "periscope/periscopelaw02.VarintTexts", spec := "varintTexts", recurses := true, plainKeys := false, apart := false, narrowed := true }
def VarintTextsUptoSaid : Prop := varintTextsUptoRow.holds Try.pinned (OpenSpec.upto varintTextsSpec)

/-- 'periscopelaw02.VarintBack', WHERE WHAT IT READS IS OF BULK AT MOST 1048576: true; the input reads as it did. -/
def varintBackUptoRow : OpenClaim := { program := "ytpfcipllfdallaa", sum := "71dc85c91121d8fbf90de6fc5b86aeb6c7ab5b69909e741fc33e52264641b347", func := "periscope/periscopelaw02.VarintBack", spec := "varintBack", plainKeys := false, apart := false, narrowed := true }
def VarintBackUptoSaid : Prop := varintBackUptoRow.holds Try.pinned (OpenSpec.upto varintBackSpec)

/-- 'periscopelaw37.FlowSteps', WHERE WHAT IT READS IS OF BULK AT MOST 1048576: true; the input reads as it did. -/
def flowStepsUptoRow : OpenClaim := { program := "ytpfcipllfdallaa", sum := "71dc85c91121d8fbf90de6fc5b86aeb6c7ab5b69909e741fc33e52264641b347", func := "periscope/periscopelaw37.FlowSteps", spec := "flowSteps", inPlace := ["sync/atomic.LoadInt64", "sync/atomic.StoreInt64"], unfollowed := true, recurses := true, plainKeys := false, apart := false, narrowed := true }
def FlowStepsUptoSaid : Prop := flowStepsUptoRow.holds Try.pinned (OpenSpec.upto flowStepsSpec)

/-- 'periscopelaw09.SpanrecWrites', WHERE WHAT IT READS IS OF BULK AT MOST 1048576: true; the input reads as it did. -/
def spanrecWritesUptoRow : OpenClaim := { program := "ytpfcipllfdallaa", sum := "71dc85c91121d8fbf90de6fc5b86aeb6c7ab5b69909e741fc33e52264641b347", func := "periscope/periscopelaw09.SpanrecWrites", spec := "spanrecWrites", unfollowed := true, recurses := true, plainKeys := false, apart := false, narrowed := true }
def SpanrecWritesUptoSaid : Prop := spanrecWritesUptoRow.holds Try.pinned (OpenSpec.upto spanrecWritesSpec)

/-- 'periscopelaw09.SpanrecReads', WHERE WHAT IT READS IS OF BULK AT MOST 1048576: true; the input reads as it did. -/
def spanrecReadsUptoRow : OpenClaim := { program := "ytpfcipllfdallaa", sum := "71dc85c91121d8fbf90de6fc5b86aeb6c7ab5b69909e741fc33e52264641b347", func := "periscope/periscopelaw09.SpanrecReads", spec := "spanrecReads", unfollowed := true, recurses := true, plainKeys := false, apart := false, narrowed := true }
def SpanrecReadsUptoSaid : Prop := spanrecReadsUptoRow.holds Try.pinned (OpenSpec.upto spanrecReadsSpec)

/-- 'periscopelaw09.SpanrecBack', WHERE WHAT IT READS IS OF BULK AT MOST 1048576: true; the input reads as it did. -/
def spanrecBackUptoRow : OpenClaim := { program := "ytpfcipllfdallaa", sum := "71dc85c91121d8fbf90de6fc5b86aeb6c7ab5b69909e741fc33e52264641b347", func := "periscope/periscopelaw09.SpanrecBack", spec := "spanrecBack", unfollowed := true, recurses := true, plainKeys := false, apart := false, narrowed := true }
def SpanrecBackUptoSaid : Prop := spanrecBackUptoRow.holds Try.pinned (OpenSpec.upto spanrecBackSpec)

/-- 'periscopelaw29.DedupPlays', WHERE WHAT IT READS IS OF BULK AT MOST 1048576: true; the input reads as it did. -/
def dedupPlaysUptoRow : OpenClaim := { program := "ytpfcipllfdallaa", sum := "71dc85c91121d8fbf90de6fc5b86aeb6c7ab5b69909e741fc33e52264641b347", func := "periscope/periscopelaw29.DedupPlays", spec := "dedupPlays", inPlace := ["slices.overlaps[int]"], unfollowed := true, recurses := true, plainKeys := false, apart := false, narrowed := true }
def DedupPlaysUptoSaid : Prop := dedupPlaysUptoRow.holds Try.pinned (OpenSpec.upto dedupPlaysSpec)

/-- 'periscopelaw29.DedupOnce', WHERE WHAT IT READS IS OF BULK AT MOST 1048576: true; the input reads as it did. -/
def dedupOnceUptoRow : OpenClaim := { program := "ytpfcipllfdallaa", sum := "71dc85c91121d8fbf90de6fc5b86aeb6c7ab5b69909e741fc33e52264641b347", func := "periscope/periscopelaw29.DedupOnce", spec := "dedupOnce", inPlace := ["slices.overlaps[int]"], unfollowed := true, recurses := true, plainKeys := false, apart := false, narrowed := true }
def DedupOnceUptoSaid : Prop := dedupOnceUptoRow.holds Try.pinned (OpenSpec.upto dedupOnceSpec)

/-- 'periscopelaw29.DedupOrder', WHERE WHAT IT READS IS OF BULK AT MOST 1048576: true; the input reads as it did. -/
def dedupOrderUptoRow : OpenClaim := { program := "ytpfcipllfdallaa", sum := "71dc85c91121d8fbf90de6fc5b86aeb6c7ab5b69909e741fc33e52264641b347", func := "periscope/periscopelaw29.DedupOrder", spec := "dedupOrder", inPlace := ["slices.overlaps[int]"], unfollowed := true, recurses := true, plainKeys := false, apart := false, narrowed := true }
def DedupOrderUptoSaid : Prop := dedupOrderUptoRow.holds Try.pinned (OpenSpec.upto dedupOrderSpec)

end Rows
end Go.Proofs.Ytpfcipllfdallaa
