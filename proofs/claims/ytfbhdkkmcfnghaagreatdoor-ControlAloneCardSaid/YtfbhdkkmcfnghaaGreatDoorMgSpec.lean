/- Requests and responses as texts, in plain Lean. No condition. -/
import Derived.Test.YtfbhdkkmcfnghaaGreatDoorPgLaw
import Derived.Test.YtfbhdkkmcfnghaaGreatDoorTsLaw
namespace Go.Proofs.YtfbhdkkmcfnghaaGreatDoor
set_option linter.unusedVariables false

/-- A request. -/
structure Rq where
  m : List UInt8
  h : List UInt8
  p : List UInt8
  hs : List Hd
  b : List UInt8
/-- A response. -/
structure Rs where
  st : Int
  hs : List Hd
  b : List UInt8

namespace Ms
def tailErr (L : List Hd) (b : List UInt8) : Nat := if headsErr L ≠ 0 then headsErr L else if 200 < b.length then 6 else 0
def check (q : Rq) : Nat := if !methodOk q.m then 3 else if !nameOk q.h then 7 else if !pathOk q.p then 12 else tailErr q.hs q.b
def checkBack (p : Rs) : Nat := if p.st < 100 ∨ 599 < p.st then 12 else tailErr p.hs p.b
def hdLine (h : Hd) : List UInt8 := h.1 ++ 58 :: 32 :: (h.2 ++ [10])
def rest (L : List Hd) (b : List UInt8) : List UInt8 := L.flatMap hdLine ++ 10 :: b
def whole (first : List UInt8) (L : List Hd) (b : List UInt8) : List UInt8 := first ++ 10 :: rest L b
def first (q : Rq) : List UInt8 := q.m ++ 32 :: (q.h ++ 32 :: q.p)
def text (q : Rq) : List UInt8 := whole (first q) q.hs q.b
def textBack (p : Rs) : List UInt8 := whole (Lib.itoa p.st) p.hs p.b
/-- Ahead of a byte, and behind it. -/
def cutAt (c : UInt8) : List UInt8 → Option (List UInt8 × List UInt8)
  | [] => none
  | x :: t => if x = c then some ([], t) else (cutAt c t).map fun r => (x :: r.1, r.2)
/-- Ahead of ": ", and behind it. -/
def cutCol : List UInt8 → Option (List UInt8 × List UInt8)
  | [] => none
  | x :: t => if x = 58 ∧ t.head? = some 32 then some ([], t.drop 1) else (cutCol t).map fun r => (x :: r.1, r.2)
/-- Headers and a body. -/
def heads : Nat → List UInt8 → List Hd → Option (List Hd × List UInt8)
  | 0, _, _ => none
  | n + 1, s, acc => match cutAt 10 s with
    | none => none
    | some (line, r) => if line = [] then some (acc, r) else match cutCol line with
      | none => none
      | some (a, b) => heads n r (acc ++ [(a, b)])
def read (s : List UInt8) : Option Rq := match cutAt 10 s with
  | none => none
  | some (f, r) => match heads 17 r [] with
    | none => none
    | some (L, b) => match Ts.pieces 32 f with
      | [m, h, p] => if check ⟨m, h, p, L, b⟩ = 0 then some ⟨m, h, p, L, b⟩ else none
      | _ => none
def readBack (s : List UInt8) : Option Rs := match cutAt 10 s with
  | none => none
  | some (f, r) => match heads 17 r [] with
    | none => none
    | some (L, b) => if f.length = 3 ∧ eachB 48 57 f = true ∧ checkBack ⟨Pg.num f, L, b⟩ = 0 then some ⟨Pg.num f, L, b⟩ else none

theorem cutAt_back {c : UInt8} : ∀ {l a r : List UInt8}, cutAt c l = some (a, r) → l = a ++ c :: r ∧ c ∉ a
  | [], a, r, h => by simp [cutAt] at h
  | x :: t, a, r, h => by
    unfold cutAt at h
    split at h
    · rename_i hx
      simp at h
      obtain ⟨rfl, rfl⟩ := h
      simp [hx]
    · rename_i hx
      obtain ⟨⟨a', r'⟩, h1, h2⟩ := Option.map_eq_some_iff.1 h
      simp at h2
      obtain ⟨rfl, rfl⟩ := h2
      obtain ⟨h3, h4⟩ := cutAt_back h1
      exact ⟨by rw [h3]; rfl, by simp [h4]; exact fun e => hx e.symm⟩
theorem cutAt_app {c : UInt8} {a r : List UInt8} (h : c ∉ a) : cutAt c (a ++ c :: r) = some (a, r) := by
  induction a with
  | nil => simp [cutAt]
  | cons x t ih =>
    have hx : ¬ x = c := fun e => h (by simp [e])
    have := ih fun e => h (by simp [e])
    simp [cutAt, hx, this]
theorem cutAt_none {c : UInt8} {a : List UInt8} : cutAt c a = none ↔ c ∉ a := by
  induction a with
  | nil => simp [cutAt]
  | cons x t ih =>
    by_cases hx : x = c
    · simp [cutAt, hx]
    · have hx' : ¬ c = x := fun e => hx e.symm
      simp [cutAt, hx, ih, hx']
theorem cutCol_back : ∀ {l a r : List UInt8}, cutCol l = some (a, r) → l = a ++ 58 :: 32 :: r
  | [], a, r, h => by simp [cutCol] at h
  | x :: t, a, r, h => by
    unfold cutCol at h
    split at h
    · rename_i hx
      simp at h
      obtain ⟨rfl, rfl⟩ := h
      cases t with
      | nil => simp at hx
      | cons y u => simp at hx; simp [hx]
    · obtain ⟨⟨a', r'⟩, h1, h2⟩ := Option.map_eq_some_iff.1 h
      simp at h2
      obtain ⟨rfl, rfl⟩ := h2
      rw [cutCol_back h1]
      rfl
theorem cutCol_app {a r : List UInt8} (h : (58 : UInt8) ∉ a) : cutCol (a ++ 58 :: 32 :: r) = some (a, r) := by
  induction a with
  | nil => simp [cutCol]
  | cons x t ih =>
    have hx : ¬ x = 58 := fun e => h (by simp [e])
    have := ih fun e => h (by simp [e])
    simp [cutCol, hx, this]
theorem heads_back : ∀ {n : Nat} {s : List UInt8} {acc L : List Hd} {b : List UInt8}, heads n s acc = some (L, b) → ∃ M, L = acc ++ M ∧ s = rest M b ∧ M.length < n
  | 0, _, _, _, _, h => by simp [heads] at h
  | n + 1, s, acc, L, b, h => by
    unfold heads at h
    split at h
    · cases h
    · rename_i line r hc
      have h1 := (cutAt_back hc).1
      split at h
      · rename_i hl
        simp at h
        obtain ⟨rfl, rfl⟩ := h
        exact ⟨[], by simp, by rw [h1, hl]; rfl, by simp⟩
      · split at h
        · cases h
        · rename_i a v hcol
          obtain ⟨M, rfl, h2, h3⟩ := heads_back h
          refine ⟨(a, v) :: M, by simp, ?_, by simp; omega⟩
          rw [h1, cutCol_back hcol, h2]
          simp [rest, hdLine]
theorem heads_rest : ∀ {n : Nat} {M acc : List Hd} {b : List UInt8}, M.length < n → (∀ h ∈ M, (58 : UInt8) ∉ h.1 ∧ (10 : UInt8) ∉ h.1 ∧ (10 : UInt8) ∉ h.2) → heads n (rest M b) acc = some (acc ++ M, b)
  | 0, M, _, _, h, _ => by omega
  | n + 1, [], acc, b, _, _ => by
    unfold heads
    rw [show rest [] b = [] ++ 10 :: b from rfl, cutAt_app (by simp)]
    simp
  | n + 1, m :: M, acc, b, h, hf => by
    unfold heads
    obtain ⟨f1, f2, f3⟩ := hf m (by simp)
    have e : rest (m :: M) b = (m.1 ++ 58 :: 32 :: m.2) ++ 10 :: rest M b := by simp [rest, hdLine]
    rw [e, cutAt_app (by simp [f2, f3])]
    simp only
    rw [if_neg (by simp), cutCol_app f1]
    simp only
    rw [heads_rest (n := n) (by simp at h; omega) (fun x hx => hf x (by simp [hx]))]
    simp
end Ms
end Go.Proofs.YtfbhdkkmcfnghaaGreatDoor
