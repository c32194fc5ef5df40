/- The walk of LineCaps at what the form grants. Condition: the library's table lies. -/
import Derived.Test.YtkhepehgafijfaaDoorLineCaps
import Derived.Test.YtkhepehgafijfaaDoorLineData
namespace Go.Proofs.YtkhepehgafijfaaDoor
open Go.RowKit Cells
theorem caps20 (v : Value) (x : RcArg) (w : World) (hv : pSlice w 2 partCells v) (hx : x.ok w) (hp : Pow10 w) : Calls Tryd.prog 5 #[v, x.val] w fun e w' => e = .returned (.bool true) ∧ Below w.heap.size w w' := by
  obtain ⟨L, B, cap, rfl, hT, hL⟩ := parts_of hv
  exact lineCaps_any L B cap x.r x.A x.cap w hT hx.heads hx.reach hx.ints hL hp
end Go.Proofs.YtkhepehgafijfaaDoor
