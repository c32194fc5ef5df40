/- Windows of numbers in plain Lean. No condition. -/
import Derived.Test.YtbcokngjcgldpaaLib
namespace Go.Proofs.Ytbcokngjcgldpaa

/-- A window: its node, its greatest number, its numbers. -/
structure Wi where
  n : Int
  h : Int
  s : List Int

namespace Dd
/-- The place of a node's window. -/
def pl (L : List Wi) (node : Int) : Option Nat := L.findIdx? fun w => w.n == node
def ins (x : Int) (s : List Int) : List Int := s.filter (· < x) ++ x :: s.filter (x < ·)
def high (w : Wi) (x : Int) : Wi := ⟨w.n, x, w.s.filter (x - 128 < ·) ++ [x]⟩
def low (w : Wi) (x : Int) : Wi := ⟨w.n, w.h, ins x w.s⟩
/-- What a number does to its window: another window, or none. -/
def step (w : Wi) (x : Int) : Option Wi := if w.h < x then some (high w x) else if 128 ≤ w.h - x ∨ x ∈ w.s then none else some (low w x)
def bad (node x : Int) : Bool := decide (node < 0) || decide (8 ≤ node) || decide (x < 0) || decide (1099511627776 < x)
def fresh (L : List Wi) (node x : Int) : List Wi × Bool :=
  if bad node x then (L, false) else
  match pl L node with
  | none => (L ++ [⟨node, x, [x]⟩], true)
  | some i => match L[i]? with
    | none => (L, false)
    | some w => match step w x with
      | none => (L, false)
      | some w' => (L.set i w', true)
def has (L : List Wi) (node x : Int) : Bool :=
  match pl L node with
  | none => false
  | some i => match L[i]? with
    | none => false
    | some w => w.s.contains x

/-- What all windows are that came of numbers. -/
structure OkW (w : Wi) : Prop where
  n0 : 0 ≤ w.n
  n1 : w.n < 8
  h0 : 0 ≤ w.h
  h1 : w.h ≤ 1099511627776
  asc : w.s.Pairwise (· < ·)
  top : w.h ∈ w.s
  le : ∀ x ∈ w.s, x ≤ w.h
  near : ∀ x ∈ w.s, w.h - x < 128
  pos : ∀ x ∈ w.s, 0 ≤ x
structure Ok (L : List Wi) : Prop where
  each : ∀ w ∈ L, OkW w
  apart : L.Pairwise fun a b => a.n ≠ b.n

theorem Ok.nil : Ok [] := ⟨by simp, by simp⟩

theorem asc_len : ∀ {s : List Int} {a b : Int}, s.Pairwise (· < ·) → (∀ x ∈ s, a ≤ x ∧ x ≤ b) → (s.length : Int) ≤ max 0 (b - a + 1)
  | [], a, b, _, _ => by simp; omega
  | x :: t, a, b, hp, hb => by
    have h1 := List.pairwise_cons.1 hp
    have h2 := hb x (by simp)
    have := asc_len (s := t) (a := x + 1) (b := b) h1.2 fun y hy => ⟨h1.1 y hy, (hb y (by simp [hy])).2⟩
    simp only [List.length_cons]
    omega
theorem OkW.len {w : Wi} (h : OkW w) : 1 ≤ w.s.length ∧ w.s.length ≤ 128 := by
  have := asc_len h.asc (a := w.h - 127) (b := w.h) fun x hx => ⟨by have := h.near x hx; omega, h.le x hx⟩
  have h1 := List.length_pos_of_mem h.top
  omega

theorem pl_none {L : List Wi} {node : Int} (h : pl L node = none) : ∀ w ∈ L, w.n ≠ node := by
  unfold pl at h
  rw [List.findIdx?_eq_none_iff] at h
  intro w hw
  simpa using h w hw
theorem pl_some {L : List Wi} {node : Int} {i : Nat} (h : pl L node = some i) : ∃ hi : i < L.length, L[i].n = node ∧ ∀ j (hj : j < i), (L[j]'(by omega)).n ≠ node := by
  unfold pl at h
  rw [List.findIdx?_eq_some_iff_getElem] at h
  obtain ⟨hi, h1, h2⟩ := h
  exact ⟨hi, by simpa using h1, fun j hj => by simpa using h2 j hj⟩

theorem mem_ins {x y : Int} {s : List Int} : y ∈ ins x s ↔ y = x ∨ (y ∈ s ∧ y ≠ x) := by
  unfold ins
  simp only [List.mem_append, List.mem_cons, List.mem_filter, decide_eq_true_eq]
  constructor
  · rintro (⟨h1, h2⟩ | rfl | ⟨h1, h2⟩)
    · exact .inr ⟨h1, by omega⟩
    · exact .inl rfl
    · exact .inr ⟨h1, by omega⟩
  · rintro (rfl | ⟨h1, h2⟩)
    · exact .inr (.inl rfl)
    · rcases Int.lt_or_gt_of_ne h2 with h | h
      · exact .inl ⟨h1, h⟩
      · exact .inr (.inr ⟨h1, h⟩)
theorem asc_ins {x : Int} {s : List Int} (h : s.Pairwise (· < ·)) : (ins x s).Pairwise (· < ·) := by
  unfold ins
  rw [List.pairwise_append]
  refine ⟨h.filter _, List.pairwise_cons.2 ⟨fun y hy => by simp at hy; exact hy.2, h.filter _⟩, fun a ha b hb => ?_⟩
  simp at ha hb
  omega
theorem OkW.high {w : Wi} {x : Int} (h : OkW w) (hx : w.h < x) (hm : x ≤ 1099511627776) : OkW (high w x) := by
  have hle := h.le
  have h0 := h.h0
  refine ⟨h.n0, h.n1, by simp [Dd.high]; omega, hm, ?_, by simp [Dd.high], ?_, ?_, ?_⟩
  · unfold Dd.high
    simp only
    rw [List.pairwise_append]
    refine ⟨h.asc.filter _, by simp, fun a ha b hb => ?_⟩
    simp at ha hb
    have := hle a ha.1
    omega
  all_goals
    intro y hy
    simp only [Dd.high, List.mem_append, List.mem_filter, decide_eq_true_eq, List.mem_singleton] at hy ⊢
    rcases hy with hy | hy
    · have := hle y hy.1
      have := h.pos y hy.1
      omega
    · omega
theorem OkW.low {w : Wi} {x : Int} (h : OkW w) (h0 : 0 ≤ x) (hx : ¬ w.h < x) (hn : ¬ 128 ≤ w.h - x) : OkW (low w x) := by
  refine ⟨h.n0, h.n1, h.h0, h.h1, asc_ins h.asc, ?_, ?_, ?_, ?_⟩
  · unfold Dd.low
    simp only
    rw [mem_ins]
    have := h.top
    by_cases e : w.h = x
    · exact .inl e
    · exact .inr ⟨this, e⟩
  all_goals
    intro y hy
    have hy' : y = x ∨ (y ∈ w.s ∧ y ≠ x) := mem_ins.1 hy
    have e : (Dd.low w x).h = w.h := rfl
    try rw [e]
    clear e hy
    rcases hy' with rfl | ⟨hy, _⟩
    · omega
    · have a := h.le y hy
      have b := h.near y hy
      have c := h.pos y hy
      omega
theorem OkW.step {w w' : Wi} {x : Int} (h : OkW w) (h0 : 0 ≤ x) (hm : x ≤ 1099511627776) (hs : step w x = some w') : OkW w' ∧ w'.n = w.n := by
  unfold Dd.step at hs
  split at hs
  · simp at hs; subst hs; exact ⟨h.high (by assumption) hm, rfl⟩
  · split at hs
    · simp at hs
    · rename_i h1 h2
      simp at hs; subst hs
      exact ⟨h.low h0 h1 (by omega), rfl⟩
theorem bad_no {node x : Int} (h : bad node x = false) : 0 ≤ node ∧ node < 8 ∧ 0 ≤ x ∧ x ≤ 1099511627776 := by
  simp [bad] at h
  omega
theorem Ok.fresh {L : List Wi} {node x : Int} (h : Ok L) : Ok (fresh L node x).1 := by
  unfold Dd.fresh
  cases hb : bad node x
  · have hn := bad_no hb
    simp only [Bool.false_eq_true, if_false]
    split
    · rename_i hp
      have hp := pl_none hp
      refine ⟨fun w hw => ?_, ?_⟩
      · rcases List.mem_append.1 hw with hw | hw
        · exact h.each w hw
        · simp at hw; subst hw
          exact ⟨hn.1, hn.2.1, hn.2.2.1, hn.2.2.2, by simp, by simp, by simp, by simp, by simp <;> omega⟩
      · rw [List.pairwise_append]
        refine ⟨h.apart, by simp, fun a ha b hb => ?_⟩
        simp at hb; subst hb
        exact hp a ha
    · rename_i i hp
      obtain ⟨hi, h1, h2⟩ := pl_some hp
      rw [List.getElem?_eq_getElem hi]
      simp only
      cases hs : step L[i] x with
      | none => exact h
      | some w' =>
        have hw := (h.each _ (List.getElem_mem hi)).step hn.2.2.1 hn.2.2.2 hs
        refine ⟨fun w hm => ?_, ?_⟩
        · rcases List.mem_or_eq_of_mem_set hm with hm | rfl
          · exact h.each w hm
          · exact hw.1
        · rw [List.pairwise_iff_getElem]
          intro a b ha hb hab
          simp only [List.getElem_set]
          simp only [List.length_set] at ha hb
          have hq := List.pairwise_iff_getElem.1 h.apart
          split
          · rename_i e; subst e
            rw [if_neg (by omega), hw.2]
            exact hq _ _ hi hb hab
          · split
            · rename_i e; subst e
              rw [hw.2]
              exact hq _ _ ha hi hab
            · exact hq _ _ ha hb hab
  · simpa using h
/-- So many windows at most. -/
theorem nodes_len : ∀ (k : Nat) {L : List Wi}, L.Pairwise (fun a b => a.n ≠ b.n) → (∀ w ∈ L, 0 ≤ w.n ∧ w.n < k) → L.length ≤ k
  | 0, L, _, h => by
    cases L with
    | nil => simp
    | cons w t => have := h w (by simp); omega
  | k + 1, L, hp, h => by
    have ih := nodes_len k (L := L.filter fun w => w.n != (k : Int)) (hp.filter _) fun w hw => by
      have hw := List.mem_filter.1 hw
      have h1 := h w hw.1
      have h2 : w.n ≠ (k : Int) := by simpa using hw.2
      omega
    have : L.length ≤ (L.filter fun w => w.n != (k : Int)).length + 1 := by
      clear ih h
      induction L with
      | nil => simp
      | cons w t iht =>
        have hp' := List.pairwise_cons.1 hp
        by_cases hw : w.n = (k : Int)
        · have : t.filter (fun w => w.n != (k : Int)) = t := by
            rw [List.filter_eq_self]
            intro a ha
            have := hp'.1 a ha
            simp; omega
          simp [hw, this]
        · have := iht hp'.2
          simp [hw]; omega
    omega
theorem Ok.len {L : List Wi} (h : Ok L) : L.length ≤ 8 := nodes_len 8 h.apart fun w hw => ⟨(h.each w hw).n0, (h.each w hw).n1⟩
end Dd
end Go.Proofs.Ytbcokngjcgldpaa
