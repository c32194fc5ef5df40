/- Walks of the reference's Key, Value, blank, trim. Condition: the text is no longer than an int can say. -/
import Derived.Test.YtbnaicgomabigaaDoorTsByte
import Derived.Test.YtbnaicgomabigaaDoorTsLaw
namespace Go.Proofs.YtbnaicgomabigaaDoor
open Go.RowKit
set_option linter.unusedVariables false

theorem Ts.keyRef {l : List UInt8} (h : 0 < l.length) (h1 : l.length ≤ 32) : Ts.keyOk l = (Ts.low (l[0]'h) && l.all Ts.any) := by
  have h0 : l ≠ [] := by intro e; simp [e] at h
  rw [Ts.keyOk_len h0 h1, List.head?_eq_getElem?, List.getElem?_eq_getElem h]
  rfl

theorem ts_snoc (s : List UInt8) : s = [] ∨ ∃ t b, s = t ++ [b] := by
  rcases List.eq_nil_or_concat s with h | ⟨t, b, h⟩
  · exact .inl h
  · exact .inr ⟨t, b, by simpa using h⟩
theorem Ts.trimR_snoc (t : List UInt8) (b : UInt8) : Ts.trimR (t ++ [b]) = if Ts.blank b = true then Ts.trimR t else t ++ [b] := by
  unfold Ts.trimR
  cases h : Ts.blank b <;> simp [h]


end Go.Proofs.YtbnaicgomabigaaDoor
