/- Walks of the laws InjectBack and InjectTwice. Conditions: what the form's reach gives; a variable of the library's holds an int. -/
import Derived.Test.YtfbhdkkmcfnghaaGreatDoorInBack
namespace Go.Proofs.YtfbhdkkmcfnghaaGreatDoor
open Go.RowKit
set_option linter.unusedVariables false

theorem eql_parent (hi lo sp : Nat) (fl : Int) (w : World) : (Op.equalIn 10000 27 (.agg #[.int .u64 hi, .int .u64 lo, .int .u64 sp, .int .i64 fl]) (.agg #[.int .u64 hi, .int .u64 lo, .int .u64 sp, .int .i64 fl])).run Tryz.prog w = .ok true w := by
  have hu := Tryz.underlying23
  have hj := Tryz.underlying3
  simp [go_sem, Tryz.underlying27, Tryz.underlying25]

theorem put_mem {L : List Hd} {p : Pr} {m : Hd} (h : m ∈ In.put L p) : m.2.length ≤ 64 ∨ m ∈ L := by
  unfold In.put at h
  split at h
  · exact In.into_mem h
  · simp at h
theorem put_size (L : List Hd) (p : Pr) : (In.put L p).length ≤ L.length + 2 := by
  unfold In.put
  split
  · exact In.into_size L p
  · simp

end Go.Proofs.YtfbhdkkmcfnghaaGreatDoor
