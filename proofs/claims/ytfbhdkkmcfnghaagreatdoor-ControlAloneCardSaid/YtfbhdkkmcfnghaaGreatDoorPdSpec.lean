/- Predicates in plain Lean: what may be. No condition. -/
import Derived.Test.YtfbhdkkmcfnghaaGreatDoorMgSpec
namespace Go.Proofs.YtfbhdkkmcfnghaaGreatDoor
set_option linter.unusedVariables false

/-- A predicate. -/
structure Pd where
  k : Int
  (n v : List UInt8)
namespace Pd
def cells (p : Pd) : List Value := [.int .i64 p.k, .string (bs p.n), .string (bs p.v)]
def fits (p : Pd) : Prop := p.n.length ≤ 140737488355328 ∧ p.v.length ≤ 140737488355328
/-- What a kind's value is asked. -/
def chk (k : Int) (v : List UInt8) : Nat :=
  if k = 1 then (if !Ms.methodOk v then 3 else 0) else
  if k = 2 then (if !nameOk v then 7 else 0) else
  if k = 5 then (if !Ms.valueOk v then 15 else 0) else
  if k = 6 then 0 else (if !Ms.pathOk v then 12 else 0)
def named (k : Int) : Bool := decide (k = 5 ∨ k = 6)
def valued (k : Int) : Bool := decide (k ≠ 6)
def err (p : Pd) : Nat :=
  if p.k < 1 ∨ 6 < p.k then 2 else
  if !named p.k ∧ p.n ≠ [] then 2 else
  if !valued p.k ∧ p.v ≠ [] then 2 else
  if named p.k ∧ nameOk p.n = false then 7 else chk p.k p.v
end Pd
end Go.Proofs.YtfbhdkkmcfnghaaGreatDoor
