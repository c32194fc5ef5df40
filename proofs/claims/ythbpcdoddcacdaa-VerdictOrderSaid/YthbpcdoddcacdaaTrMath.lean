/- More on walks of trees in plain Lean. No condition. -/
import Derived.Test.YthbpcdoddcacdaaTrSpec
namespace Go.Proofs.Ythbpcdoddcacdaa
set_option linter.unusedVariables false
namespace Tr
theorem run_out {K : Nat → List Nat} {N : Nat} (hK : Fit K N) : ∀ todo out, Out N out → (∀ y ∈ todo.map Prod.fst, y < N) → Out N (run K N todo out) := by
  intro todo out ho ht
  unfold run
  generalize mea N todo out + 1 = f
  induction f generalizing todo out with
  | zero => exact ho
  | succ f ih =>
    match todo, ht with
    | [], _ => exact ho
    | (x, d) :: t, ht =>
      unfold stk
      split
      · exact ih t out ho fun y hy => ht y (by simp at hy ⊢; exact .inr hy)
      · rename_i hn
        refine ih _ _ (ho.push (ht x (by simp)) hn) fun y hy => ?_
        rw [List.map_append, List.mem_append] at hy
        rcases hy with hy | hy
        · obtain ⟨p, hp, rfl⟩ := List.mem_map.1 hy
          obtain ⟨k, hk, rfl⟩ := List.mem_map.1 hp
          exact hK.lt x k hk
        · exact ht y (by simp at hy ⊢; exact .inr hy)
theorem walk_out (L : List Sp) (at_ : Nat) : Out L.length (walk L at_) := by
  unfold walk
  split
  · rename_i h
    exact run_out (fit L) _ _ ⟨by simp, by simp⟩ (by simpa using h)
  · exact ⟨by simp, by simp⟩
theorem walk_len (L : List Sp) (at_ : Nat) : (walk L at_).length ≤ L.length := (walk_out L at_).len
end Tr
end Go.Proofs.Ythbpcdoddcacdaa
