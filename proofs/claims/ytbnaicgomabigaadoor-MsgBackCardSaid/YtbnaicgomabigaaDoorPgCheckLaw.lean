/- Whether an operation may be, as the code asks it. No condition. -/
import Derived.Test.YtbnaicgomabigaaDoorPgLaw
namespace Go.Proofs.YtbnaicgomabigaaDoor
set_option linter.unusedVariables false
namespace Pg
def sa (k : Int) : Int := if k = 1 then 1 else if k = 5 ∨ k = 7 then 0 else 2
def sb (k : Int) : Int := if k = 3 then 1 else if k = 6 then 3 else 0
def sn (k : Int) : Int := if k = 7 then 4 else 0
/-- Why a text is not what it should be. -/
def fits (l : List UInt8) (k : Int) : Nat := if k = 2 ∧ nameOk l = false then 7 else if k = 1 ∧ Ms.valueOk l = false then 15 else if k = 3 ∧ Ms.pathOk l = false then 12 else 0
/-- As the code asks. -/
def checkP (k : Int) (a b : List UInt8) (n : Int) : Nat :=
  if (sa k = 0 ∧ a ≠ []) ∨ (sb k = 0 ∧ b ≠ []) ∨ (sn k = 0 ∧ n ≠ 0) then 2
  else if fits a (sa k) ≠ 0 then fits a (sa k)
  else if k = 4 ∧ traced a = true then 7
  else if fits b (sb k) ≠ 0 then fits b (sb k)
  else if sn k = 4 ∧ (n < 100 ∨ 599 < n) then 12 else 0
set_option maxHeartbeats 8000000 in
theorem check_eq (k : Int) (a b : List UInt8) (n : Int) (h0 : 1 ≤ k) (h1 : k ≤ 7) : check ⟨k, a, b, n⟩ = checkP k a b n := by
  rcases kind_cases h0 h1 with rfl | rfl | rfl | rfl | rfl | rfl | rfl
  all_goals cases ha : a.isEmpty
  all_goals cases hb : b.isEmpty
  all_goals by_cases hn : n = 0
  all_goals cases h2 : nameOk a
  all_goals cases h3 : Ms.valueOk a
  all_goals cases h4 : Ms.valueOk b
  all_goals cases h5 : Ms.pathOk b
  all_goals cases h6 : traced a
  all_goals simp_all [check, checkP, sa, sb, sn, fits, noA, noB]
theorem check_out {o : Ob} (h : o.k < 1 ∨ 7 < o.k) : check o = 2 := by
  unfold check
  rw [if_pos h]
end Pg
end Go.Proofs.YtbnaicgomabigaaDoor
