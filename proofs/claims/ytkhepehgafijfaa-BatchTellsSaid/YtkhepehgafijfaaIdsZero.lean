/- Walks of ids.Zero and of the reference's. Condition: two uint64. -/
import Derived.Test.YtkhepehgafijfaaProg
import Derived.Test.YtkhepehgafijfaaLib
namespace Go.Proofs.Ytkhepehgafijfaa
open Go.RowKit

def zer (hi lo : Nat) : Bool := decide (hi = 0 ∧ lo = 0)

set_option maxHeartbeats 400000 in
set_option maxRecDepth 100000 in
theorem zero_any (hi lo : Nat) (w : World) (h1 : hi < 18446744073709551616) (h2 : lo < 18446744073709551616) :
    Calls Try.prog 49 #[.agg #[.int .u64 (hi : Int), .int .u64 (lo : Int)]] w fun e w' => e = .returned (.bool (zer hi lo)) ∧ Below w.heap.size w w' := by
  have HB := Lib.hid (bits_or_u64_nat hi lo h1 h2)
  go_enter Try.func49, Try.ntmps49
  go_wp2_with fail
  go_ret
  refine ⟨?_, (Below.refl _ _).alloc (Nat.le_refl _) _⟩
  refine congrArg (fun r => Ending.returned (.bool r)) (?_ : _ = zer hi lo)
  rw [HB.out, Bool.eq_iff_iff]
  simp [zer]

set_option maxHeartbeats 400000 in
set_option maxRecDepth 100000 in
theorem refZero_any (hi lo : Nat) (w : World) :
    Calls Try.prog 52 #[.agg #[.int .u64 (hi : Int), .int .u64 (lo : Int)]] w fun e w' => e = .returned (.bool (zer hi lo)) ∧ Below w.heap.size w w' := by
  go_enter Try.func52, Try.ntmps52
  go_wp2_with fail
  all_goals
    go_ret
    exact ⟨by simp [zer, *], (Below.refl _ _).alloc (Nat.le_refl _) _⟩
end Go.Proofs.Ytkhepehgafijfaa
