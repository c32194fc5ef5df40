/- Operations and their lines, in plain Lean. No condition. -/
import Derived.Test.YtfbhdkkmcfnghaaGreatDoorHeadName
import Derived.Test.YtfbhdkkmcfnghaaGreatDoorHeadSpec
import Derived.Test.YtfbhdkkmcfnghaaGreatDoorItoa
namespace Go.Proofs.YtfbhdkkmcfnghaaGreatDoor
set_option linter.unusedVariables false

namespace Ms
def eachB (lo hi : Nat) (l : List UInt8) : Bool := l.all fun b => decide (lo ≤ b.toNat) && decide (b.toNat ≤ hi)
def methodOk (l : List UInt8) : Bool := !l.isEmpty && decide (l.length ≤ 8) && eachB 65 90 l
def pathOk (l : List UInt8) : Bool := (l.head? == some 47) && decide (l.length ≤ 64) && eachB 33 126 l
def valueOk (l : List UInt8) : Bool := decide (l.length ≤ 64) && eachB 32 126 l && (l.isEmpty || (l.head? != some 32 && l.getLast? != some 32))
/-- Why headers may not be. -/
def hdErr : List Hd → Nat
  | [] => 0
  | h :: t => if !nameOk h.1 then 7 else if !valueOk h.2 then 15 else hdErr t
def headsErr (L : List Hd) : Nat := if 16 < L.length then 8 else hdErr L
theorem hdErr_take {L : List Hd} {j : Nat} (h : j < L.length) : hdErr (L.take j) = 0 → hdErr (L.take (j + 1)) = (if !nameOk L[j].1 then 7 else if !valueOk L[j].2 then 15 else 0) := by
  induction L generalizing j with
  | nil => simp at h
  | cons a t ih =>
    cases j with
    | zero => intro _; simp [hdErr]
    | succ j =>
      simp only [List.take_succ_cons, hdErr, List.getElem_cons_succ]
      split
      · intro h; cases h
      · split
        · intro h; cases h
        · intro h1
          exact ih (by simpa using h) h1
theorem hdErr_stop {L : List Hd} {j : Nat} (h : hdErr (L.take j) ≠ 0) : hdErr L = hdErr (L.take j) := by
  induction L generalizing j with
  | nil => simp
  | cons a t ih =>
    cases j with
    | zero => simp [hdErr] at h
    | succ j =>
      cases c1 : nameOk a.1 <;> cases c2 : valueOk a.2 <;> simp [hdErr, c1, c2] at h ⊢
      exact ih h
end Ms

/-- An operation. -/
structure Ob where
  k : Int
  a : List UInt8
  b : List UInt8
  n : Int
deriving DecidableEq
def Ob.cells (o : Ob) : List Value := [.int .i64 o.k, .string (bs o.a), .string (bs o.b), .int .i64 o.n]
def Ob.val (o : Ob) : Value := .agg #[.int .i64 o.k, .string (bs o.a), .string (bs o.b), .int .i64 o.n]

namespace Pg
def traced (l : List UInt8) : Bool := l == [116, 114, 97, 99, 101, 112, 97, 114, 101, 110, 116] || l == [116, 114, 97, 99, 101, 115, 116, 97, 116, 101]
def noA (k : Int) : Bool := k == 5 || k == 7
def noB (k : Int) : Bool := k != 3 && k != 6
/-- Why an operation may not be. -/
def check (o : Ob) : Nat :=
  if o.k < 1 ∨ 7 < o.k then 2
  else if (noA o.k && !o.a.isEmpty) || (noB o.k && !o.b.isEmpty) || (o.k != 7 && o.n != 0) then 2
  else if o.k != 1 && !noA o.k && !nameOk o.a then 7
  else if o.k == 4 && traced o.a then 7
  else if (o.k == 1 && !Ms.valueOk o.a) || (o.k == 3 && !Ms.valueOk o.b) then 15
  else if (o.k == 6 && !Ms.pathOk o.b) || (o.k == 7 && (decide (o.n < 100) || decide (599 < o.n))) then 12
  else 0
def allErr : List Ob → Nat
  | [] => 0
  | o :: t => if check o ≠ 0 then check o else allErr t
def checkAll (L : List Ob) : Nat := if 12 < L.length then 8 else allErr L
theorem allErr_take {L : List Ob} {j : Nat} (h : j < L.length) : allErr (L.take j) = 0 → allErr (L.take (j + 1)) = check L[j] := by
  induction L generalizing j with
  | nil => simp at h
  | cons a t ih =>
    cases j with
    | zero => intro _; simp [allErr]; exact fun h => h.symm
    | succ j =>
      simp only [List.take_succ_cons, allErr, List.getElem_cons_succ]
      split
      · intro h1; rename_i h2; exact absurd h1 h2
      · intro h1
        exact ih (by simpa using h) h1
theorem allErr_stop {L : List Ob} {j : Nat} (h : allErr (L.take j) ≠ 0) : allErr L = allErr (L.take j) := by
  induction L generalizing j with
  | nil => simp
  | cons a t ih =>
    cases j with
    | zero => simp [allErr] at h
    | succ j =>
      simp only [List.take_succ_cons, allErr] at h ⊢
      by_cases c : check a = 0
      · simp only [c, ne_eq, not_true_eq_false, if_false] at h ⊢
        exact ih h
      · simp only [c, ne_eq, not_false_eq_true, if_true]

def word (k : Int) : List UInt8 :=
  if k = 1 then [115, 97, 121] else if k = 2 then [103, 101, 116] else if k = 3 then [112, 117, 116] else if k = 4 then [104, 101, 97, 100]
  else if k = 5 then [98, 111, 100, 121] else if k = 6 then [99, 97, 108, 108] else [115, 116, 97, 116, 117, 115]
def text (o : Ob) : List UInt8 :=
  if o.k = 5 then word 5 else if o.k = 7 then word 7 ++ 32 :: Lib.itoa o.n
  else if o.k = 3 ∨ o.k = 6 then word o.k ++ 32 :: (o.a ++ 32 :: o.b) else word o.k ++ 32 :: o.a
def write (o : Ob) : List UInt8 := if check o = 0 then text o else []
/-- What stands ahead of the first blank, and behind it. -/
def cut : List UInt8 → List UInt8 × List UInt8
  | [] => ([], [])
  | b :: t => if b = 32 then ([], t) else (b :: (cut t).1, (cut t).2)
/-- The number of three digits. -/
def num (l : List UInt8) : Int := match l with
  | [x, y, z] => if Ms.eachB 48 57 [x, y, z] then 100 * (x.toNat - 48 : Int) + 10 * (y.toNat - 48 : Int) + (z.toNat - 48 : Int) else 0
  | _ => 0
def parse (k : Int) (rest : List UInt8) : Ob :=
  if k = 7 then ⟨7, [], [], num rest⟩ else if k = 3 ∨ k = 6 then ⟨k, (cut rest).1, (cut rest).2, 0⟩ else ⟨k, rest, [], 0⟩
def kindOf (w : List UInt8) : Option Int := ([1, 2, 3, 4, 5, 6, 7] : List Int).find? fun k => word k == w
def read (line : List UInt8) : Option Ob :=
  match kindOf (cut line).1 with
  | none => none
  | some k => if check (parse k (cut line).2) = 0 ∧ text (parse k (cut line).2) = line then some (parse k (cut line).2) else none
end Pg
end Go.Proofs.YtfbhdkkmcfnghaaGreatDoor
