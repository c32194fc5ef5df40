/- Headers in plain Lean: the first value of a name. No condition. -/
import Derived.Test.YtfbhdkkmcfnghaaGreatDoorSlice
namespace Go.Proofs.YtfbhdkkmcfnghaaGreatDoor

/-- A header: its name, its value. -/
abbrev Hd := List UInt8 × List UInt8
def Hd.cells (h : Hd) : List Value := [.string (bs h.1), .string (bs h.2)]
def Hd.fits (h : Hd) : Prop := h.1.length ≤ maxLen ∧ h.2.length ≤ maxLen
/-- The place of the first one of a name. -/
def hdAt (l : List Hd) (name : List UInt8) : Option Nat := l.findIdx? fun h => h.1 == name
/-- The first value of a name. -/
def hdGet (l : List Hd) (name : List UInt8) : Option (List UInt8) := (l.find? fun h => h.1 == name).map (·.2)

theorem hdGet_at {l : List Hd} {name : List UInt8} : hdGet l name = (hdAt l name).bind fun i => l[i]?.map (·.2) := by
  unfold hdGet hdAt
  induction l with
  | nil => rfl
  | cons h t ih =>
    by_cases hh : h.1 == name
    · simp [List.findIdx?_cons, hh]
    · simp only [List.find?_cons, List.findIdx?_cons, hh]
      rw [ih]
      cases List.findIdx? (fun h => h.1 == name) t <;> simp

end Go.Proofs.YtfbhdkkmcfnghaaGreatDoor
