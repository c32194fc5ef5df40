/- A name set among headers, one header after another; in plain Lean. No condition. -/
import Derived.Test.YtfbhdkkmcfnghaaGreatDoorInSet
namespace Go.Proofs.YtfbhdkkmcfnghaaGreatDoor
open Go.RowKit
set_option linter.unusedVariables false

/-- What the reference does with one header. -/
def setStep (n v : List UInt8) (a : List Hd × Bool) (h : Hd) : List Hd × Bool :=
  if (h.1 == n) = true then (if a.2 then a else (a.1 ++ [(n, v)], true)) else (a.1 ++ [h], a.2)
def setF (n v : List UInt8) (L : List Hd) : List Hd × Bool := L.foldl (setStep n v) ([], false)
theorem setF_next (n v : List UInt8) {L : List Hd} {i : Nat} (h : i < L.length) : setF n v (L.take (i + 1)) = setStep n v (setF n v (L.take i)) L[i] := by
  rw [List.take_succ_eq_append_getElem h]
  unfold setF
  rw [List.foldl_append]
  rfl
theorem setF_met (n v : List UInt8) : ∀ (L : List Hd) (o : List Hd), L.foldl (setStep n v) (o, true) = (o ++ hdKeep (inNames [n]) L, true)
  | [], o => by simp [hdKeep]
  | h :: t, o => by
    rw [List.foldl_cons]
    by_cases hh : (h.1 == n) = true
    · rw [show setStep n v (o, true) h = (o, true) by unfold setStep; rw [if_pos hh]; rfl, setF_met n v t]
      simp [hdKeep, inNames_one, hh]
    · rw [show setStep n v (o, true) h = (o ++ [h], true) by unfold setStep; rw [if_neg hh], setF_met n v t]
      have hf : (h.1 == n) = false := by simpa using hh
      simp [hdKeep, inNames_one, hf]
theorem setF_set (n v : List UInt8) : ∀ (L : List Hd) (o : List Hd), (let a := L.foldl (setStep n v) (o, false); if a.2 then a.1 else a.1 ++ [(n, v)]) = o ++ hdSet L n v
  | [], o => by simp [hdSet, hdAt]
  | h :: t, o => by
    rw [List.foldl_cons]
    by_cases hh : (h.1 == n) = true
    · rw [show setStep n v (o, false) h = (o ++ [(n, v)], true) by unfold setStep; rw [if_pos hh]; rfl, setF_met n v t]
      have he : hdAt (h :: t) n = some 0 := by unfold hdAt; rw [List.findIdx?_cons, if_pos hh]
      simp [hdSet, he, hdKeep, inNames_one, hh]
    · have hf : (h.1 == n) = false := by simpa using hh
      rw [show setStep n v (o, false) h = (o ++ [h], false) by unfold setStep; rw [if_neg hh], setF_set n v t]
      have he : hdAt (h :: t) n = (hdAt t n).map (· + 1) := by unfold hdAt; rw [List.findIdx?_cons, if_neg hh]
      unfold hdSet
      rw [he]
      cases hdAt t n with
      | none => simp
      | some k => simp
theorem setF_full (n v : List UInt8) (L : List Hd) : (if (setF n v L).2 then (setF n v L).1 else (setF n v L).1 ++ [(n, v)]) = hdSet L n v := by
  have h := setF_set n v L []
  rw [List.nil_append] at h
  exact h
theorem setF_len (n v : List UInt8) (L : List Hd) : (setF n v L).1.length ≤ L.length := by
  have : ∀ (L : List Hd) (a : List Hd × Bool), (L.foldl (setStep n v) a).1.length ≤ a.1.length + L.length := by
    intro L
    induction L with
    | nil => intro a; simp
    | cons h t ih =>
      intro a
      rw [List.foldl_cons]
      have h1 := ih (setStep n v a h)
      have h2 : (setStep n v a h).1.length ≤ a.1.length + 1 := by
        unfold setStep
        split
        · split <;> simp
        · simp
      simp only [List.length_cons]
      omega
  simpa [setF] using this L ([], false)
theorem keep_next (p : List UInt8 → Bool) {L : List Hd} {i : Nat} (h : i < L.length) : hdKeep p (L.take (i + 1)) = hdKeep p (L.take i) ++ (if p L[i].1 then [] else [L[i]]) := by
  rw [List.take_succ_eq_append_getElem h]
  unfold hdKeep
  rw [List.filter_append]
  cases hp : p L[i].1 <;> simp [hp]
theorem names_next (N : List (List UInt8)) (x : List UInt8) {k : Nat} (h : k < N.length) : inNames (N.take (k + 1)) x = (inNames (N.take k) x || (x == N[k])) := by
  rw [List.take_succ_eq_append_getElem h]
  unfold inNames
  rw [List.any_append]
  simp only [List.any_cons, List.any_nil, Bool.or_false]
end Go.Proofs.YtfbhdkkmcfnghaaGreatDoor
