/- The walk of 'spans come back'. Condition: what the form itself grants of arguments. -/
import Derived.Test.YtpfcipllfdallaaSpanLaws
import Derived.Test.YtpfcipllfdallaaSpanBackSpec
namespace Go.Proofs.Ytpfcipllfdallaa
open Go.RowKit

set_option maxHeartbeats 1000000 in
set_option maxRecDepth 100000 in
theorem back09_long (s : Sp) (p q : List UInt8) (w : World) (h : 400 < s.name.length ∨ 1000 < p.length ∨ 1000 < q.length) :
    Calls Try.prog 9 #[s.val, .string (bs p), .string (bs q)] w fun e w' => e = .returned (.bool true) ∧ Below w.heap.size w w' := by
  obtain ⟨hi, lo, id, up, name, st, sq, kd, sh, t0, t1⟩ := s
  simp only [Sp.val] at *
  by_cases h1 : 400 < name.length
  · go_enter Try.func9, Try.ntmps9
    go_wp2_with fail
    refine (known09_any _).mono ?_
    rintro e w1 ⟨rfl, hb1⟩
    go_wp2_with fail
    go_ret
    exact ⟨rfl, ((Below.refl _ _).alloc (Nat.le_refl _) _).trans (hb1.mono (by simp))⟩
  · have d1 : decide (400 < name.length) = false := by simp [h1]
    by_cases h2 : 1000 < p.length
    · go_enter Try.func9, Try.ntmps9
      go_wp2_with fail
      refine (known09_any _).mono ?_
      rintro e w1 ⟨rfl, hb1⟩
      go_wp2_with fail
      go_ret
      exact ⟨rfl, ((Below.refl _ _).alloc (Nat.le_refl _) _).trans (hb1.mono (by simp))⟩
    · have d2 : decide (1000 < p.length) = false := by simp [h2]
      have h3 : 1000 < q.length := by omega
      go_enter Try.func9, Try.ntmps9
      go_wp2_with fail
      refine (known09_any _).mono ?_
      rintro e w1 ⟨rfl, hb1⟩
      go_wp2_with fail
      go_ret
      exact ⟨rfl, ((Below.refl _ _).alloc (Nat.le_refl _) _).trans (hb1.mono (by simp))⟩

end Go.Proofs.Ytpfcipllfdallaa
