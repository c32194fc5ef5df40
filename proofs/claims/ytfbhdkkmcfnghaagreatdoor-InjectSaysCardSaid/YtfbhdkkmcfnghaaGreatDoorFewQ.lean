/- Walk of what the laws ask of a request: Few. Condition: texts not longer than 2^47. -/
import Derived.Test.YtfbhdkkmcfnghaaGreatDoorHead
import Derived.Test.YtfbhdkkmcfnghaaGreatDoorKit
namespace Go.Proofs.YtfbhdkkmcfnghaaGreatDoor
open Go.RowKit
set_option linter.unusedVariables false

theorem allp_take_succ {α : Type} {p : α → Bool} {l : List α} {i : Nat} (h : i < l.length) (ha : (l.take i).all p = true) (hb : p l[i] = true) : (l.take (i + 1)).all p = true := by
  rw [List.take_succ_eq_append_getElem h, List.all_append, ha]; simp [hb]
theorem allp_false_of {α : Type} {p : α → Bool} {l : List α} {i : Nat} (h : i < l.length) (hb : p l[i] = false) : l.all p = false := by
  rw [List.all_eq_false]; exact ⟨l[i], List.getElem_mem h, by simp [hb]⟩

def fewQ (m h p b : List UInt8) (hs : List Hd) : Bool := decide (m.length + h.length + p.length + b.length ≤ 2000) && (decide (hs.length ≤ 40) && hs.all fun x => decide (x.1.length + x.2.length ≤ 400))

end Go.Proofs.YtfbhdkkmcfnghaaGreatDoor
