/-
  No cell of these rows narrows 'for every input' (looked for: loops, veiled, ifaces, maps, wideKeys, modest, calm, conditions, laid).
  DERIVED. THE GIVEN ROWS OF THIS SEAT. 3 by the template 'for every input the law returns true; each argument reads behind the call as it read before'; 0 by the template 'total and deterministic' (their statements: YtfbhdkkmcfnghaaGreatTotals.lean).
  GIVEN WITH THE SEED: the statements are not yours to turn. If you find one false, say at which input.
  Laid BY PROGRAM, IN A SANDBOX (cutbox-rows.mjs): the forced cells as the released guide's own fill.sh prints them over the translation da2c4c159069991f… (all of the seat's roots in one cut). By AI agents, Wed Nov 11 2026. No macro, syntax, notation, axiom, sorry.
-/
import Derived.Test.YtfbhdkkmcfnghaaGreatChecked
import GoSem.Claim
import GoSem.ClaimJoined
import GoSem.ClaimMapViews
import Derived.JoinedTies
import Derived.KernelRfl
namespace Go.Proofs.YtfbhdkkmcfnghaaGreat
/- THE CELL 'sum', in the pinned program and in every row, IS THE sha256 OF THE DUMP (.gsa) THAT YtfbhdkkmcfnghaaGreatProg.lean LOADS. Nothing in Lean hashes anything: it is a label: what it is worth is what the hold of that sum in a sandbox is worth. -/
noncomputable def Tryz.pinned : Pinned := { name := "ytfbhdkkmcfnghaagreat", sum := "da2c4c159069991f47c97bd610c31e3387974b7668793a9ced420da5da644db0", checked := Tryz.checked }
namespace Rows
def none {H : Type} : Left H := { results := [], args := [] }

/-- 'periscopelaw33.CollectPlays': WHATEVER THE INPUT: true; the input reads as it did. -/
def collectPlaysSpec : ChangeSpec := { name := "collectPlays", fn := fun _ => fun
  | [d1, d2, d3] => { results := [.lit (.bool true)], args := [d1, d2, d3] }
  | _ => none }
def collectPlaysRow : OpenClaim := { program := "ytfbhdkkmcfnghaagreat", sum := "da2c4c159069991f47c97bd610c31e3387974b7668793a9ced420da5da644db0", func := "periscope/periscopelaw33.CollectPlays", spec := "collectPlays", inPlace := ["sync/atomic.AddInt64", "slices.overlaps[int]", "sync/atomic.LoadInt64"], unfollowed := true, recurses := true, apart := false }
def CollectPlaysSaid : Prop := collectPlaysRow.holds Tryz.pinned (OpenSpec.ofChange collectPlaysSpec)

/-- ITS FALSE NEIGHBOUR: 'it returns false'. Refute it at one input. -/
def collectPlaysWrong : ChangeSpec := { name := "collectPlays", fn := fun _ => fun
  | [d1, d2, d3] => { results := [.lit (.bool false)], args := [d1, d2, d3] }
  | _ => none }
def CollectPlaysWrongFalsely : Prop := collectPlaysRow.holds Tryz.pinned (OpenSpec.ofChange collectPlaysWrong)

/-- 'periscopelaw33.CollectTwice': WHATEVER THE INPUT: true; the input reads as it did. -/
def collectTwiceSpec : ChangeSpec := { name := "collectTwice", fn := fun _ => fun
  | [d1, d2, d3] => { results := [.lit (.bool true)], args := [d1, d2, d3] }
  | _ => none }
def collectTwiceRow : OpenClaim := { program := "ytfbhdkkmcfnghaagreat", sum := "da2c4c159069991f47c97bd610c31e3387974b7668793a9ced420da5da644db0", func := "periscope/periscopelaw33.CollectTwice", spec := "collectTwice", inPlace := ["sync/atomic.AddInt64", "slices.overlaps[int]", "sync/atomic.LoadInt64"], unfollowed := true, recurses := true, apart := false }
def CollectTwiceSaid : Prop := collectTwiceRow.holds Tryz.pinned (OpenSpec.ofChange collectTwiceSpec)

/-- ITS FALSE NEIGHBOUR: 'it returns false'. Refute it at one input. -/
def collectTwiceWrong : ChangeSpec := { name := "collectTwice", fn := fun _ => fun
  | [d1, d2, d3] => { results := [.lit (.bool false)], args := [d1, d2, d3] }
  | _ => none }
def CollectTwiceWrongFalsely : Prop := collectTwiceRow.holds Tryz.pinned (OpenSpec.ofChange collectTwiceWrong)

/-- 'periscopelaw33.CollectOrder': WHATEVER THE INPUT: true; the input reads as it did. -/
def collectOrderSpec : ChangeSpec := { name := "collectOrder", fn := fun _ => fun
  | [d] => { results := [.lit (.bool true)], args := [d] }
  | _ => none }
def collectOrderRow : OpenClaim := { program := "ytfbhdkkmcfnghaagreat", sum := "da2c4c159069991f47c97bd610c31e3387974b7668793a9ced420da5da644db0", func := "periscope/periscopelaw33.CollectOrder", spec := "collectOrder", inPlace := ["sync/atomic.AddInt64", "slices.overlaps[int]", "sync/atomic.LoadInt64"], unfollowed := true, recurses := true, apart := false }
def CollectOrderSaid : Prop := collectOrderRow.holds Tryz.pinned (OpenSpec.ofChange collectOrderSpec)

/-- ITS FALSE NEIGHBOUR: 'it returns false'. Refute it at one input. -/
def collectOrderWrong : ChangeSpec := { name := "collectOrder", fn := fun _ => fun
  | [d] => { results := [.lit (.bool false)], args := [d] }
  | _ => none }
def CollectOrderWrongFalsely : Prop := collectOrderRow.holds Tryz.pinned (OpenSpec.ofChange collectOrderWrong)

/- THE SECOND FORM. 'bulk': how many values and letters a reading holds, each counted each time it is reached (what is shared counts as often as it is met; a slice's spare places count too). A statement '..UptoSaid' is the law's where the arguments, and the package variables that the reading takes, are together of bulk at most 1048576: NARROWER than '..Said'. Prove '..Said' where nothing that the law and all that it calls make is longer than what came in: it says more and counts as full. Else prove '..UptoSaid'. A law counts once. -/
mutual
def uptoBulk {H : Type} : DataW H → Nat
  | .lit (.string bytes) => bytes.length + 1
  | .lit _ => 1
  | .nil => 1
  | .ptr d => uptoBulk d + 1
  | .slice elems spare => uptoBulkAll elems + uptoBulkAll spare + 1
  | .agg parts => uptoBulkAll parts + 1
  | .iface _ d => uptoBulk d + 1
  | .map entries => uptoBulkEntries entries + 1
  | .held _ => 1
def uptoBulkAll {H : Type} : List (DataW H) → Nat
  | [] => 0
  | d :: r => uptoBulk d + uptoBulkAll r
def uptoBulkEntries {H : Type} : List (Lit × DataW H) → Nat
  | [] => 0
  | x :: r => uptoBulkEntry x + uptoBulkEntries r
def uptoBulkEntry {H : Type} : Lit × DataW H → Nat
  | (.string bytes, d) => bytes.length + uptoBulk d + 1
  | (_, d) => uptoBulk d + 1
 end
def uptoSmall : (H : Type) → List (DataW H) → Bool := fun _ ds => decide (uptoBulkAll ds ≤ 1048576)
def OpenSpec.upto (s : _root_.Go.ChangeSpec) : _root_.Go.OpenSpec := { _root_.Go.OpenSpec.ofChange s with cond := some uptoSmall }

/-- 'periscopelaw33.CollectPlays', WHERE WHAT IT READS IS OF BULK AT MOST 1048576: true; the input reads as it did. -/
def collectPlaysUptoRow : OpenClaim := { program := "ytfbhdkkmcfnghaagreat", sum := "da2c4c159069991f47c97bd610c31e3387974b7668793a9ced420da5da644db0", func := "periscope/periscopelaw33.CollectPlays", spec := "collectPlays", inPlace := ["sync/atomic.AddInt64", "slices.overlaps[int]", "sync/atomic.LoadInt64"], unfollowed := true, recurses := true, apart := false, narrowed := true }
def CollectPlaysUptoSaid : Prop := collectPlaysUptoRow.holds Tryz.pinned (OpenSpec.upto collectPlaysSpec)

/-- 'periscopelaw33.CollectTwice', WHERE WHAT IT READS IS OF BULK AT MOST 1048576: true; the input reads as it did. -/
def collectTwiceUptoRow : OpenClaim := { program := "ytfbhdkkmcfnghaagreat", sum := "da2c4c159069991f47c97bd610c31e3387974b7668793a9ced420da5da644db0", func := "periscope/periscopelaw33.CollectTwice", spec := "collectTwice", inPlace := ["sync/atomic.AddInt64", "slices.overlaps[int]", "sync/atomic.LoadInt64"], unfollowed := true, recurses := true, apart := false, narrowed := true }
def CollectTwiceUptoSaid : Prop := collectTwiceUptoRow.holds Tryz.pinned (OpenSpec.upto collectTwiceSpec)

/-- 'periscopelaw33.CollectOrder', WHERE WHAT IT READS IS OF BULK AT MOST 1048576: true; the input reads as it did. -/
def collectOrderUptoRow : OpenClaim := { program := "ytfbhdkkmcfnghaagreat", sum := "da2c4c159069991f47c97bd610c31e3387974b7668793a9ced420da5da644db0", func := "periscope/periscopelaw33.CollectOrder", spec := "collectOrder", inPlace := ["sync/atomic.AddInt64", "slices.overlaps[int]", "sync/atomic.LoadInt64"], unfollowed := true, recurses := true, apart := false, narrowed := true }
def CollectOrderUptoSaid : Prop := collectOrderUptoRow.holds Tryz.pinned (OpenSpec.upto collectOrderSpec)

end Rows
end Go.Proofs.YtfbhdkkmcfnghaaGreat
