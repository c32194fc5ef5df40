/- Configs in plain Lean: what may be. No condition. -/
import Derived.Test.YtfbhdkkmcfnghaaGreatDoorPdSpec
namespace Go.Proofs.YtfbhdkkmcfnghaaGreatDoor
set_option linter.unusedVariables false

/-- A rule. -/
structure Ru where
  rank : Int
  ps : List Pd
  tg : List UInt8
  (ap st dp dt mp : Int)
  mi : List UInt8
  sm : Int
/-- A config. -/
structure Cf where
  rs : List Ru
  f : List UInt8
namespace Cf
def firstErr {α : Type} (e : α → Nat) : List α → Nat
  | [] => 0
  | x :: t => if e x ≠ 0 then e x else firstErr e t
theorem firstErr_at {α : Type} {e : α → Nat} : ∀ {l : List α} {i : Nat} (hi : i < l.length), (∀ j (hj : j < i), e (l[j]'(by omega)) = 0) → e l[i] ≠ 0 → firstErr e l = e l[i]
  | [], i, hi, _, _ => by simp at hi
  | x :: t, 0, _, _, h => by simp only [List.getElem_cons_zero] at h ⊢; unfold firstErr; rw [if_pos h]
  | x :: t, i + 1, hi, h0, h => by
    have hx : e x = 0 := h0 0 (by omega)
    unfold firstErr
    rw [if_neg (by simp [hx])]
    exact firstErr_at (l := t) (i := i) (by simpa using hi) (fun j hj => h0 (j + 1) (by omega)) h
theorem firstErr_none {α : Type} {e : α → Nat} : ∀ {l : List α}, (∀ j (hj : j < l.length), e l[j] = 0) → firstErr e l = 0
  | [], _ => rfl
  | x :: t, h => by
    have hx : e x = 0 := h 0 (by simp)
    unfold firstErr
    rw [if_neg (by simp [hx])]
    exact firstErr_none (fun j hj => h (j + 1) (by simpa using hj))
theorem firstErr_zero {α : Type} {e : α → Nat} : ∀ {l : List α}, firstErr e l = 0 → ∀ x ∈ l, e x = 0
  | [], _, x, hx => by cases hx
  | y :: t, h, x, hx => by
    unfold firstErr at h
    split at h
    · rename_i h1; exact absurd h h1
    · rename_i h1
      rcases List.mem_cons.1 hx with rfl | hx
      · simpa using h1
      · exact firstErr_zero h x hx
def fmtOk (s : List UInt8) : Bool := Ms.eachB 32 126 s && decide (s.length ≤ 120)
def namesOk (r : Ru) : Bool := if r.mi = [] then nameOk r.tg && decide (r.mp = 0) else nameOk r.tg && nameOk r.mi
def nums (r : Ru) : List Int := [r.rank, r.ap, r.st, r.dp, r.dt, r.mp, r.sm]
def inR (n : Int) : Bool := decide (0 ≤ n) && decide (n ≤ 999999)
def one (r : Ru) : Nat :=
  if 4 < r.ps.length then 8 else if firstErr Pd.err r.ps ≠ 0 then firstErr Pd.err r.ps else if namesOk r = false then 7 else if (nums r).all inR = true then 0 else 12
def check (c : Cf) : Nat := if fmtOk c.f = false then 15 else if 16 < c.rs.length then 8 else firstErr one c.rs
end Cf
end Go.Proofs.YtfbhdkkmcfnghaaGreatDoor
