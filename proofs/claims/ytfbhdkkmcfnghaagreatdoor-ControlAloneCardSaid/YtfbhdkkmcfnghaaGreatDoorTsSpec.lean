/- Members of a tracestate in plain Lean. No condition. -/
import Derived.Test.YtfbhdkkmcfnghaaGreatDoorHeadSpec
import Derived.Test.YtfbhdkkmcfnghaaGreatDoorLib
namespace Go.Proofs.YtfbhdkkmcfnghaaGreatDoor

namespace Ts
/-- May a byte stand in a key: anywhere; at its beginning. -/
def low (b : UInt8) : Bool := (decide (97 ≤ b.toNat) && decide (b.toNat ≤ 122)) || (decide (48 ≤ b.toNat) && decide (b.toNat ≤ 57))
def odd (b : UInt8) : Bool := b.toNat == 95 || b.toNat == 45 || b.toNat == 42 || b.toNat == 47 || b.toNat == 64
def letter (b : UInt8) (first : Bool) : Bool := if odd b then !first else low b
def any (b : UInt8) : Bool := odd b || low b
def keyOk (l : List UInt8) : Bool := !l.isEmpty && decide (l.length ≤ 32) && (l.head?.map low).getD true && l.all any
def valByte (b : UInt8) : Bool := decide (32 ≤ b.toNat) && decide (b.toNat ≤ 126) && b.toNat != 44 && b.toNat != 61
def valOk (l : List UInt8) : Bool := !l.isEmpty && decide (l.length ≤ 64) && (l.getLast?.map fun b => b.toNat != 32).getD true && l.all valByte
/-- May a member stand behind others: the error's number. -/
def next (ahead : List Hd) (m : Hd) : Nat :=
  if !keyOk m.1 || !valOk m.2 then 3 else if ahead.any (fun x => x.1 == m.1) then 10 else if 32 ≤ ahead.length then 8 else 0
/-- Whether members may be: the first one's error. -/
def check (l : List Hd) : Nat := (((List.range l.length).map fun i => next (l.take i) (l.getD i ([], []))).find? (· != 0)).getD 0

theorem letter_any {b : UInt8} : letter b false = any b := by
  unfold letter any
  cases odd b <;> simp
theorem odd_low {b : UInt8} (h : odd b = true) : low b = false := by
  simp only [odd, low, Bool.or_eq_true, beq_iff_eq] at *
  rcases h with (((h | h) | h) | h) | h <;> rw [h] <;> rfl
theorem letter_first {b : UInt8} : letter b true = low b := by
  unfold letter
  cases h : odd b
  · rfl
  · rw [odd_low h]; rfl

theorem check_at {l : List Hd} {i : Nat} (hi : i < l.length) (h : ∀ j, j < i → next (l.take j) (l.getD j ([], [])) = 0) (hn : next (l.take i) (l.getD i ([], [])) ≠ 0) : check l = next (l.take i) (l.getD i ([], [])) := by
  unfold check
  have : ((List.range l.length).map fun i => next (l.take i) (l.getD i ([], []))).find? (· != 0) = some (next (l.take i) (l.getD i ([], []))) := by
    rw [List.find?_map]
    have : (List.range l.length).find? ((· != 0) ∘ fun i => next (l.take i) (l.getD i ([], []))) = some i := by
      rw [List.find?_range_eq_some]
      refine ⟨by simpa using hn, List.mem_range.2 hi, fun j hj => ?_⟩
      simpa using h j hj
    rw [this]; rfl
  rw [this]; rfl
theorem check_ok {l : List Hd} (h : ∀ j, j < l.length → next (l.take j) (l.getD j ([], [])) = 0) : check l = 0 := by
  unfold check
  have : ((List.range l.length).map fun i => next (l.take i) (l.getD i ([], []))).find? (· != 0) = none := by
    rw [List.find?_eq_none]
    intro x hx
    obtain ⟨j, hj, rfl⟩ := List.mem_map.1 hx
    simpa using h j (List.mem_range.1 hj)
  rw [this]; rfl
theorem check_zero {l : List Hd} (h : check l = 0) {i : Nat} (hi : i < l.length) : next (l.take i) (l.getD i ([], [])) = 0 := by
  induction i using Nat.strongRecOn with
  | _ i ih =>
    by_cases hn : next (l.take i) (l.getD i ([], [])) = 0
    · exact hn
    · rw [check_at hi (fun j hj => ih j hj (by omega)) hn] at h
      exact h

/-- The pieces between a byte. -/
def pieces (c : UInt8) : List UInt8 → List (List UInt8)
  | [] => [[]]
  | b :: t => if b = c then [] :: pieces c t else match pieces c t with
    | [] => [[b]]
    | p :: ps => (b :: p) :: ps
theorem pieces_ne {c : UInt8} (l : List UInt8) : pieces c l ≠ [] := by
  cases l with
  | nil => simp [pieces]
  | cons b t =>
    unfold pieces
    split
    · simp
    · split <;> simp

def blank (b : UInt8) : Bool := b.toNat == 32 || b.toNat == 9
def trimR (l : List UInt8) : List UInt8 := (l.reverse.dropWhile blank).reverse
def trim (l : List UInt8) : List UInt8 := (trimR l).dropWhile blank
/-- What stands ahead of the first '=', and behind it. -/
def cutEq (l : List UInt8) : Option Hd := if 61 ∈ l then some (l.takeWhile (· != 61), (l.dropWhile (· != 61)).drop 1) else none

def readFrom : List (List UInt8) → List Hd → List Hd × Nat
  | [], out => (out, 0)
  | p :: ps, out => if trim p = [] then readFrom ps out else match cutEq (trim p) with
    | none => ([], 3)
    | some m => if next out m ≠ 0 then ([], next out m) else readFrom ps (out ++ [m])
def read (s : List UInt8) : List Hd × Nat := readFrom (pieces 44 s) []

def word (m : Hd) : List UInt8 := m.1 ++ 61 :: m.2
/-- Words with a comma between. -/
def text (l : List Hd) : List UInt8 := match l with
  | [] => []
  | m :: t => word m ++ t.flatMap fun x => 44 :: word x
theorem text_next {l : List Hd} {i : Nat} (h : i < l.length) : text (l.take (i + 1)) = text (l.take i) ++ (if 0 < i then [44] else []) ++ word l[i] := by
  cases i with
  | zero => rw [List.take_succ_eq_append_getElem h]; simp [text]
  | succ k =>
    cases l with
    | nil => simp at h
    | cons m t =>
      have h' : k < t.length := by simpa using h
      simp only [text, List.take_succ_cons]
      rw [List.take_succ_eq_append_getElem h', List.flatMap_append]
      simp
def write (l : List Hd) : List UInt8 × Nat := if check l ≠ 0 then ([], check l) else (text l, 0)
def others (l : List Hd) (k : List UInt8) : List Hd := l.filter fun x => x.1 != k
def put (l : List Hd) (k v : List UInt8) : List Hd × Nat := if !keyOk k || !valOk v then ([], 3) else (((k, v) :: others l k).take 32, 0)
end Ts
end Go.Proofs.YtfbhdkkmcfnghaaGreatDoor
