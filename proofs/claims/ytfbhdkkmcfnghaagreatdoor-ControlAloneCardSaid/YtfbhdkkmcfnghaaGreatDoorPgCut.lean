/- The library's cut at one byte, and at ": ". No condition. -/
import Derived.Test.YtfbhdkkmcfnghaaGreatDoorPgLaw
import Derived.Test.YtfbhdkkmcfnghaaGreatDoorTsLaw
namespace Go.Proofs.YtfbhdkkmcfnghaaGreatDoor
set_option linter.unusedVariables false
namespace Pg
theorem cut_lib : ∀ l : List UInt8, Lib.cut l [32] = if 32 ∈ l then ((cut l).1, (cut l).2, true) else (l, [], false)
  | [] => by simp [Lib.cut, Ts.index_nil]
  | b :: t => by
    have ih := cut_lib t
    unfold Lib.cut at *
    rw [Ts.index_cons]
    by_cases h : b = 32
    · subst h; simp [cut]
    · rw [if_neg h]
      have hne : ¬ (32 : UInt8) = b := fun e => h e.symm
      by_cases hm : Lib.index t [32] = -1
      · rw [hm] at ih ⊢
        have h61 : ¬ (32 : UInt8) ∈ t := by
          intro hc
          simp [hc] at ih
        simp [h61, hne]
      · have hge := Lib.index_ge t [32]
        rw [if_neg hm, if_pos (by omega)]
        rw [if_pos (by omega)] at ih
        by_cases h61 : (32 : UInt8) ∈ t
        · rw [if_pos h61] at ih
          simp only [Prod.mk.injEq] at ih
          rw [if_pos (by simp [h61])]
          rw [show (Lib.index t [32] + 1).toNat = (Lib.index t [32]).toNat + 1 by omega]
          simp only [List.take_succ_cons, List.length_cons, List.length_nil, Nat.zero_add]
          rw [ih.1, show (Lib.index t [32]).toNat + 1 + 1 = ((Lib.index t [32]).toNat + 1) + 1 from rfl, List.drop_succ_cons]
          simp only [List.length_cons, List.length_nil, Nat.zero_add] at ih
          rw [ih.2.1]
          simp [cut, h]
        · rw [if_neg h61] at ih
          simp at ih
end Pg
end Go.Proofs.YtfbhdkkmcfnghaaGreatDoor
