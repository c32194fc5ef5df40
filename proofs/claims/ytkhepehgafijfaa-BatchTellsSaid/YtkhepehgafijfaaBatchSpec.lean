/- Batches as bytes, in plain Lean. No condition. -/
import Derived.Test.YtkhepehgafijfaaSpanBackSpec
import Derived.Test.YtkhepehgafijfaaCrc
namespace Go.Proofs.Ytkhepehgafijfaa

def placeB (x y : Int) : Bool := decide (0 ≤ x) && decide (x < 8) && decide (0 ≤ y) && decide (y ≤ 1099511627776)
/-- The first error of spans. -/
def firstBad : List Sp → Nat
  | [] => 0
  | s :: t => if check s = 0 then firstBad t else check s
def btCheck (x y : Int) (L : List Sp) : Nat := if placeB x y = false then 12 else if L.length = 0 then 9 else if 16 < L.length then 8 else firstBad L

theorem firstBad_zero {L : List Sp} : firstBad L = 0 ↔ ∀ s ∈ L, check s = 0 := by
  induction L with
  | nil => simp [firstBad]
  | cons s t ih =>
    simp only [firstBad]
    by_cases h : check s = 0
    · simp [h, ih]
    · rw [if_neg h]; simp [h]
theorem firstBad_at {L : List Sp} {k : Nat} (hk : k < L.length) (h : ∀ s ∈ L.take k, check s = 0) (hb : check L[k] ≠ 0) : firstBad L = check L[k] := by
  induction L generalizing k with
  | nil => simp at hk
  | cons s t ih =>
    cases k with
    | zero => simp only [firstBad]; rw [if_neg (by simpa using hb)]; rfl
    | succ k =>
      have hs := h s (by simp)
      simp only [firstBad]
      rw [if_pos hs]
      exact ih (by simpa using hk) (fun x hx => h x (by simp [hx])) (by simpa using hb)
theorem take_all_succ {L : List Sp} {k : Nat} (hk : k < L.length) (h : ∀ s ∈ L.take k, check s = 0) (hb : check L[k] = 0) : ∀ s ∈ L.take (k + 1), check s = 0 := by
  intro s hs
  rw [List.take_succ_eq_append_getElem hk] at hs
  rcases List.mem_append.1 hs with h1 | h1
  · exact h s h1
  · simp at h1; subst h1; exact hb

/-- A batch's bytes, before they are sealed. -/
def btBody (x y : Int) (L : List Sp) : List UInt8 := [80, 66, 1] ++ ([x.toNat, y.toNat, L.length].flatMap Vr.put ++ L.flatMap spanBytes)
def btWrite (x y : Int) (L : List Sp) : List UInt8 × Nat := if btCheck x y L = 0 then (seal_ (btBody x y L), 0) else ([], btCheck x y L)
def btAck (x y : Int) : List UInt8 × Nat := if placeB x y = true then (seal_ ([80, 65, 1] ++ [x.toNat, y.toNat].flatMap Vr.put), 0) else ([], 12)
def kindOf (l : List UInt8) : Nat := if l.take 3 = [80, 66, 1] then 1 else if l.take 3 = [80, 65, 1] then 2 else 0

/-- A number that is not too great, and the place behind it. -/
def numM (l : List UInt8) (a : Int) (most : Nat) : Nat × Int × Nat :=
  if (Vr.get l a).2.2 ≠ 0 then (0, 0, (Vr.get l a).2.2) else if most < (Vr.get l a).1 then (0, 0, 12) else ((Vr.get l a).1, (Vr.get l a).2.1, 0)

theorem numM_ok {l : List UInt8} {a : Int} {most n : Nat} {y : Int} (h : numM l a most = (n, y, 0)) : Vr.get l a = (n, y, 0) ∧ n ≤ most := by
  unfold numM at h
  split at h
  · simp only [Prod.mk.injEq] at h; omega
  · split at h
    · simp only [Prod.mk.injEq] at h; omega
    · rename_i h1 h2
      simp only [Prod.mk.injEq] at h
      refine ⟨?_, by omega⟩
      rw [← h.1, ← h.2.1]
      have : (Vr.get l a).2.2 = 0 := by simpa using h1
      rw [← this]
theorem numM_err {l : List UInt8} {a : Int} {most n e : Nat} {y : Int} (h : numM l a most = (n, y, e)) (he : e ≠ 0) : n = 0 ∧ y = 0 := by
  unfold numM at h
  split at h
  · simp only [Prod.mk.injEq] at h; omega
  · split at h <;> simp only [Prod.mk.injEq] at h <;> omega

/-- What is sealed of a kind. -/
def openK (l : List UInt8) (k : Nat) : List UInt8 × Nat := if (unsl l).2 ≠ 0 then ([], (unsl l).2) else if kindOf (unsl l).1 ≠ k then ([], 3) else ((unsl l).1, 0)

/-- The spans that stand there, so many. -/
def spansR (t : List UInt8) : Nat → List Sp → Int → List Sp × Int × Nat
  | 0, acc, a => (acc, a, 0)
  | m + 1, acc, a => if (readSpan t a).2.2 ≠ 0 then ([], 0, (readSpan t a).2.2) else spansR t m (acc ++ [(readSpan t a).1]) (readSpan t a).2.1

/-- Node, number, place of what is sealed. -/
def front (l : List UInt8) (k : Nat) : List UInt8 × Nat × Nat × Int × Nat :=
  if (openK l k).2 ≠ 0 then ([], 0, 0, 0, (openK l k).2) else
  if (numM (openK l k).1 3 7).2.2 ≠ 0 then ([], 0, 0, 0, (numM (openK l k).1 3 7).2.2) else
  if (numM (openK l k).1 (numM (openK l k).1 3 7).2.1 1099511627776).2.2 ≠ 0 then ([], 0, 0, 0, (numM (openK l k).1 (numM (openK l k).1 3 7).2.1 1099511627776).2.2) else
  ((openK l k).1, (numM (openK l k).1 3 7).1, (numM (openK l k).1 (numM (openK l k).1 3 7).2.1 1099511627776).1, (numM (openK l k).1 (numM (openK l k).1 3 7).2.1 1099511627776).2.1, 0)

def btReadAck (l : List UInt8) : Nat × Nat × Nat :=
  if (front l 2).2.2.2.2 ≠ 0 then (0, 0, (front l 2).2.2.2.2) else if (front l 2).2.2.2.1 ≠ (front l 2).1.length then (0, 0, 3) else ((front l 2).2.1, (front l 2).2.2.1, 0)

/-- A batch of bytes that are open, from a place on: the spans, or why there are none. -/
def spansAll (t : List UInt8) (a : Int) (many : Nat) : List Sp × Nat :=
  if (spansR t many [] a).2.2 ≠ 0 then ([], (spansR t many [] a).2.2) else if (spansR t many [] a).2.1 ≠ t.length then ([], 3) else if many = 0 then ([], 9) else ((spansR t many [] a).1, 0)

def btRead (l : List UInt8) : Nat × Nat × List Sp × Nat :=
  if (front l 1).2.2.2.2 ≠ 0 then (0, 0, [], (front l 1).2.2.2.2) else
  if (numM (front l 1).1 (front l 1).2.2.2.1 16).2.2 ≠ 0 then (0, 0, [], (numM (front l 1).1 (front l 1).2.2.2.1 16).2.2) else
  if (spansAll (front l 1).1 (numM (front l 1).1 (front l 1).2.2.2.1 16).2.1 (numM (front l 1).1 (front l 1).2.2.2.1 16).1).2 ≠ 0 then (0, 0, [], (spansAll (front l 1).1 (numM (front l 1).1 (front l 1).2.2.2.1 16).2.1 (numM (front l 1).1 (front l 1).2.2.2.1 16).1).2) else
  ((front l 1).2.1, (front l 1).2.2.1, (spansAll (front l 1).1 (numM (front l 1).1 (front l 1).2.2.2.1 16).2.1 (numM (front l 1).1 (front l 1).2.2.2.1 16).1).1, 0)

end Go.Proofs.Ytkhepehgafijfaa
