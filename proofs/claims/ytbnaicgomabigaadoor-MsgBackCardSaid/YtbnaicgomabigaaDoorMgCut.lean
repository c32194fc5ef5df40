/- The library's cut, at one byte and at ": ". No condition. -/
import Derived.Test.YtbnaicgomabigaaDoorMgSpec
import Derived.Lib.IndexMore
namespace Go.Proofs.YtbnaicgomabigaaDoor
namespace Ms
theorem libcut_cons (sep : List UInt8) (b : UInt8) (t : List UInt8) : Lib.cut (b :: t) sep =
    if sep.isPrefixOf (b :: t) = true then ([], (b :: t).drop sep.length, true) else if (Lib.cut t sep).2.2 = true then (b :: (Lib.cut t sep).1, (Lib.cut t sep).2.1, true) else (b :: t, [], false) := by
  unfold Lib.cut
  rw [Lib.index]
  by_cases h : sep.isPrefixOf (b :: t) = true
  · simp [h]
  · have hge := Lib.index_ge t sep
    by_cases hm : Lib.index t sep = -1
    · simp [h, hm]
    · have h0 : 0 ≤ Lib.index t sep := by omega
      have h1 : (0 : Int) ≤ Lib.index t sep + 1 := by omega
      have hb : (Lib.index t sep == -1) = false := by simp [hm]
      rw [if_neg h, if_neg h, hb]
      simp only [Bool.false_eq_true, if_false]
      rw [if_pos h1, if_pos h0]
      simp only [if_true]
      rw [show (Lib.index t sep + 1).toNat = (Lib.index t sep).toNat + 1 by omega, List.take_succ_cons, show (Lib.index t sep).toNat + 1 + sep.length = ((Lib.index t sep).toNat + sep.length) + 1 by omega, List.drop_succ_cons]
theorem cut1_lib (c : UInt8) : ∀ l : List UInt8, Lib.cut l [c] = match cutAt c l with | some (a, r) => (a, r, true) | none => (l, [], false)
  | [] => by simp [Lib.cut, Lib.index, cutAt]
  | b :: t => by
    have ih := cut1_lib c t
    rw [libcut_cons, ih, show cutAt c (b :: t) = if b = c then some ([], t) else (cutAt c t).map fun r => (b :: r.1, r.2) from rfl]
    by_cases h : b = c
    · subst h; simp [List.isPrefixOf]
    · have hp : ([c] : List UInt8).isPrefixOf (b :: t) = false := by simp [List.isPrefixOf, Ne.symm h]
      cases cutAt c t <;> simp [hp, h]
theorem cut2_lib : ∀ l : List UInt8, Lib.cut l [58, 32] = match cutCol l with | some (a, r) => (a, r, true) | none => (l, [], false)
  | [] => by simp [Lib.cut, Lib.index, cutCol]
  | b :: t => by
    have ih := cut2_lib t
    rw [libcut_cons, ih, show cutCol (b :: t) = if b = 58 ∧ t.head? = some 32 then some ([], t.drop 1) else (cutCol t).map fun r => (b :: r.1, r.2) from rfl]
    by_cases h : b = 58 ∧ t.head? = some 32
    · obtain ⟨rfl, h2⟩ := h
      cases t with
      | nil => simp at h2
      | cons y u =>
        simp at h2
        subst h2
        simp [List.isPrefixOf]
    · have hp : ([58, 32] : List UInt8).isPrefixOf (b :: t) = false := by
        cases t with
        | nil => simp [List.isPrefixOf]
        | cons y u =>
          rw [Bool.eq_false_iff]
          intro hc
          simp [List.isPrefixOf] at hc
          exact h ⟨hc.1.symm, by simp [hc.2.symm]⟩
      rw [hp, if_neg h]
      cases cutCol t <;> simp
end Ms
end Go.Proofs.YtbnaicgomabigaaDoor
