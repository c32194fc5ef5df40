/- What is read of a line, kind by kind. No condition. -/
import Derived.Test.YtbnaicgomabigaaDoorPgLaw
namespace Go.Proofs.YtbnaicgomabigaaDoor
set_option linter.unusedVariables false
namespace Pg
/-- As the code parses, where a number N came. -/
def parseN (k : Int) (rest : List UInt8) (N : Int) : Ob := if k = 7 then ⟨7, [], [], N⟩ else parse k rest
/-- N is the right number of a rest that has one. -/
def NumOf (rest : List UInt8) (N : Int) : Prop := ∀ M : Int, 100 ≤ M → M ≤ 599 → rest = Lib.itoa M → N = M
def hit (line : List UInt8) (k : Int) : Prop := word k = (cut line).1 ∧ check (parse k (cut line).2) = 0 ∧ text (parse k (cut line).2) = line
theorem word_inj {j k : Int} (hj0 : 1 ≤ j) (hj1 : j ≤ 7) (hk0 : 1 ≤ k) (hk1 : k ≤ 7) (h : word j = word k) : j = k := by
  have a := kindOf_word hj0 hj1
  rw [h, kindOf_word hk0 hk1] at a
  exact (Option.some.inj a).symm
theorem read_hit {line : List UInt8} {k : Int} (h0 : 1 ≤ k) (h1 : k ≤ 7) (h : hit line k) : read line = some (parse k (cut line).2) := by
  unfold read
  rw [← h.1, kindOf_word h0 h1]
  simp only
  rw [if_pos h.2]
theorem read_none {line : List UInt8} (h : ∀ k : Int, 1 ≤ k → k ≤ 7 → ¬ hit line k) : read line = none := by
  cases hr : kindOf (cut line).1 with
  | none => unfold read; rw [hr]
  | some k =>
    obtain ⟨e, h0, h1⟩ := kindOf_some hr
    unfold read
    rw [hr]
    simp only
    rw [if_neg]
    exact fun hc => h k h0 h1 ⟨e, hc⟩
theorem parse_k (k : Int) (rest : List UInt8) : (parse k rest).k = k := by
  unfold parse
  repeat' split
  · rename_i h; exact h.symm
  · rfl
  · rfl
theorem parseN_ne {k N : Int} {rest : List UInt8} (h : k ≠ 7) : parseN k rest N = parse k rest := by unfold parseN; rw [if_neg h]
/-- The code's test is the kind's hit. -/
theorem parseN_hit {line : List UInt8} {k N : Int} (hw : word k = (cut line).1) (h0 : 1 ≤ k) (h1 : k ≤ 7) (hN : NumOf (cut line).2 N) :
    (check (parseN k (cut line).2 N) = 0 ∧ text (parseN k (cut line).2 N) = line ↔ hit line k) ∧ (hit line k → parseN k (cut line).2 N = parse k (cut line).2) := by
  by_cases hk : k = 7
  · subst hk
    have hcl : cut line = (word 7, (cut line).2) := by rw [hw]
    have e1 : parseN 7 (cut line).2 N = ⟨7, [], [], N⟩ := rfl
    have e2 : parse 7 (cut line).2 = ⟨7, [], [], num (cut line).2⟩ := rfl
    have key : hit line 7 → N = num (cut line).2 := by
      intro h
      obtain ⟨_, h2, h3⟩ := h
      rw [e2] at h2 h3
      obtain ⟨h4, h5, h6⟩ := status_fit hcl h2 h3
      exact hN _ h5 h6 h4
    refine ⟨⟨fun h => ?_, fun h => ?_⟩, fun h => ?_⟩
    · obtain ⟨h2, h3⟩ := h
      rw [e1] at h2 h3
      obtain ⟨h4, h5, h6⟩ := status_fit hcl h2 h3
      have e : num (cut line).2 = N := by rw [h4]; exact num_itoa h5 h6
      refine ⟨hw, ?_, ?_⟩
      · rw [e2, e]; exact h2
      · rw [e2, e]; exact h3
    · have := key h
      obtain ⟨_, h2, h3⟩ := h
      rw [e2, ← this] at h2 h3
      rw [e1]
      exact ⟨h2, h3⟩
    · rw [e1, e2, key h]
  · rw [parseN_ne hk]
    exact ⟨⟨fun h => ⟨hw, h⟩, fun h => h.2⟩, fun _ => rfl⟩
/-- What was found so far. -/
def Missed (line : List UInt8) (i : Nat) : Prop := ∀ k : Int, 1 ≤ k → k ≤ i → ¬ hit line k
theorem Missed.zero (line : List UInt8) : Missed line 0 := fun k h0 h1 => by omega
theorem Missed.next {line : List UInt8} {i : Nat} (h : Missed line i) (hn : ¬ hit line (i + 1 : Int)) : Missed line (i + 1) := fun k h0 h1 => by
  by_cases hk : k = (i + 1 : Int)
  · rw [hk]; exact hn
  · exact h k h0 (by omega)
theorem Missed.none {line : List UInt8} (h : Missed line 7) : read line = none := read_none fun k h0 h1 => h k h0 (by omega)
theorem not_hit {line : List UInt8} {k : Int} (h : word k ≠ (cut line).1) : ¬ hit line k := fun hc => h hc.1
end Pg
end Go.Proofs.YtbnaicgomabigaaDoor
