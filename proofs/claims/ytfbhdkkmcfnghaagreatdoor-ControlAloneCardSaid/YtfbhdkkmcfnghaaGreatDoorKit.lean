/- Small laws on worlds, for all walks: one step more. No condition. -/
import Derived.Test.YtfbhdkkmcfnghaaGreatDoorLib
namespace Go.Proofs.YtfbhdkkmcfnghaaGreatDoor
open Go.RowKit

/-- A fact that no tactic looks into. -/
structure Stow (p : Prop) : Prop where
  out : p

/-- One call more, which only made. -/
theorem Below.call {a b c : World} (h : Below a.heap.size a b) (k : Below b.heap.size b c) : Below a.heap.size a c := h.trans (k.mono h.size)
theorem Below.alloc' {a b : World} (h : Below a.heap.size a b) (o : Obj) : Below a.heap.size a (b.alloc o) := h.alloc h.size o
theorem Below.drewN' {B : Nat} {a w : World} (h : Below B a w) (n : Nat) : Below B a (w.drewN n) := ⟨h.os, h.tape, h.output, h.size, h.block⟩
theorem Below.self (a : World) : Below a.heap.size a a := Below.refl _ _

end Go.Proofs.YtfbhdkkmcfnghaaGreatDoor
