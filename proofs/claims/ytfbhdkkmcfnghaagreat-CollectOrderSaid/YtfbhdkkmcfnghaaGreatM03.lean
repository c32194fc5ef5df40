/- A stable sort by blocks and merges, in plain Lean: what swaps, rotations, insertions and merges do to a list. No condition. -/
import Derived.Lib.Hide

section
namespace Go.Proofs.YtfbhdkkmcfnghaaGreat
set_option linter.unusedVariables false
namespace So
variable {α : Type}

theorem set_mid (A : List α) (x y : α) (B : List α) : (A ++ x :: B).set A.length y = A ++ y :: B := by
  induction A with
  | nil => rfl
  | cons a t ih => simp [ih]
theorem get_mid (A : List α) (x : α) (B : List α) : (A ++ x :: B)[A.length]? = some x := by simp
theorem set_at {A : List α} {x y : α} {B : List α} {i : Nat} (h : A.length = i) : (A ++ x :: B).set i y = A ++ y :: B := by subst h; exact set_mid A x y B
theorem get_at {A : List α} {x : α} {B : List α} {i : Nat} (h : A.length = i) : (A ++ x :: B)[i]? = some x := by subst h; exact get_mid A x B

/-- Two elements change places. -/
theorem swap_two {A B C : List α} {x y : α} {i j : Nat} (hi : A.length = i) (hj : i + 1 + B.length = j) {L : List α} (hL : L = A ++ x :: (B ++ y :: C)) :
    L[i]? = some x ∧ L[j]? = some y ∧ (L.set i y).set j x = A ++ y :: (B ++ x :: C) := by
  subst hL
  refine ⟨get_at hi, ?_, ?_⟩
  · have e : A ++ x :: (B ++ y :: C) = (A ++ x :: B) ++ y :: C := by simp
    rw [e]; exact get_at (by simp; omega)
  · rw [set_at hi]
    have e : A ++ y :: (B ++ y :: C) = (A ++ y :: B) ++ y :: C := by simp
    rw [e, set_at (by simp; omega)]
    simp
/-- The same, the later one first. -/
theorem swap_two' {A B C : List α} {x y : α} {i j : Nat} (hi : A.length = i) (hj : i + 1 + B.length = j) {L : List α} (hL : L = A ++ x :: (B ++ y :: C)) :
    (L.set j x).set i y = A ++ y :: (B ++ x :: C) := by
  subst hL
  have e : A ++ x :: (B ++ y :: C) = (A ++ x :: B) ++ y :: C := by simp
  rw [e, set_at (by simp; omega)]
  have e : (A ++ x :: B) ++ x :: C = A ++ x :: (B ++ x :: C) := by simp
  rw [e, set_at hi]

/-- Two ranges that change places, so far. -/
def SwapInv (P X M Y S : List α) (i : Nat) (L : List α) : Prop := L = P ++ (Y.take i ++ X.drop i) ++ M ++ (X.take i ++ Y.drop i) ++ S
theorem swapInv_zero {P X M Y S L : List α} (h : L = P ++ X ++ M ++ Y ++ S) : SwapInv P X M Y S 0 L := by unfold SwapInv; simp [h]
theorem swapInv_end {P X M Y S L : List α} {n : Nat} (hx : X.length = n) (hy : Y.length = n) (h : SwapInv P X M Y S n L) : L = P ++ Y ++ M ++ X ++ S := by
  unfold SwapInv at h
  rw [List.take_of_length_le (by omega), List.take_of_length_le (by omega), List.drop_eq_nil_of_le (by omega), List.drop_eq_nil_of_le (by omega)] at h
  simpa using h
theorem swapInv_step {P X M Y S L : List α} {n i a b : Nat} (hx : X.length = n) (hy : Y.length = n) (ha : P.length = a) (hb : P.length + X.length + M.length = b) (hi : i < n) (h : SwapInv P X M Y S i L) :
    ∃ x y, L[a + i]? = some x ∧ L[b + i]? = some y ∧ SwapInv P X M Y S (i + 1) ((L.set (a + i) y).set (b + i) x) := by
  unfold SwapInv at h ⊢
  have hX : X.drop i = X[i]'(by omega) :: X.drop (i + 1) := List.drop_eq_getElem_cons (by omega)
  have hY : Y.drop i = Y[i]'(by omega) :: Y.drop (i + 1) := List.drop_eq_getElem_cons (by omega)
  obtain ⟨h1, h2, h3⟩ := swap_two (A := P ++ Y.take i) (B := X.drop (i + 1) ++ M ++ X.take i) (C := Y.drop (i + 1) ++ S) (x := X[i]'(by omega)) (y := Y[i]'(by omega)) (i := a + i) (j := b + i) (L := L)
    (by simp; omega) (by simp; omega) (by rw [h, hX, hY]; simp only [List.append_assoc, List.cons_append])
  refine ⟨_, _, h1, h2, ?_⟩
  rw [h3, List.take_succ_eq_append_getElem (show i < X.length by omega), List.take_succ_eq_append_getElem (show i < Y.length by omega)]
  simp only [List.append_assoc, List.cons_append, List.nil_append]

/-- A rotation, so far: what is to come is G. -/
def RotInv (m i j : Nat) (L G : List α) : Prop := ∃ P X Y S : List α, L = P ++ X ++ Y ++ S ∧ G = P ++ Y ++ X ++ S ∧ P.length + i = m ∧ X.length = i ∧ Y.length = j
/-- The first part is the longer one. -/
theorem rot_left {m i j : Nat} {L G : List α} (h : RotInv m i j L G) (hij : j < i) :
    ∃ P X M Y S : List α, L = P ++ X ++ M ++ Y ++ S ∧ P.length = m - i ∧ X.length = j ∧ Y.length = j ∧ P.length + X.length + M.length = m ∧ RotInv m (i - j) j (P ++ Y ++ M ++ X ++ S) G := by
  obtain ⟨P, X, Y, S, hL, hG, hP, hX, hY⟩ := h
  refine ⟨P, X.take j, X.drop j, Y, S, ?_, by omega, by simp; omega, hY, by simp; omega, ⟨P ++ Y, X.drop j, X.take j, S, by simp, ?_, by simp; omega, by simp; omega, by simp; omega⟩⟩
  · rw [hL]
    conv => lhs; rw [← List.take_append_drop j X]
    simp
  · rw [hG]
    conv => lhs; rw [← List.take_append_drop j X]
    simp
/-- The second part is the longer one. -/
theorem rot_right {m i j : Nat} {L G : List α} (h : RotInv m i j L G) (hij : i < j) :
    ∃ P X M Y S : List α, L = P ++ X ++ M ++ Y ++ S ∧ P.length = m - i ∧ X.length = i ∧ Y.length = i ∧ P.length + X.length + M.length = m + j - i ∧ RotInv m i (j - i) (P ++ Y ++ M ++ X ++ S) G := by
  obtain ⟨P, X, Y, S, hL, hG, hP, hX, hY⟩ := h
  refine ⟨P, X, Y.take (j - i), Y.drop (j - i), S, ?_, by omega, hX, by simp; omega, by simp; omega, ⟨P, Y.drop (j - i), Y.take (j - i), X ++ S, by simp, ?_, by omega, by simp; omega, by simp; omega⟩⟩
  · rw [hL]
    conv => lhs; rw [← List.take_append_drop (j - i) Y]
    simp
  · rw [hG]
    conv => lhs; rw [← List.take_append_drop (j - i) Y]
    simp
theorem rot_same {m i : Nat} {L G : List α} (h : RotInv m i i L G) :
    ∃ P X M Y S : List α, L = P ++ X ++ M ++ Y ++ S ∧ P.length = m - i ∧ X.length = i ∧ Y.length = i ∧ P.length + X.length + M.length = m ∧ G = P ++ Y ++ M ++ X ++ S := by
  obtain ⟨P, X, Y, S, hL, hG, hP, hX, hY⟩ := h
  exact ⟨P, X, [], Y, S, by simp [hL], by omega, hX, hY, by simp; omega, by simp [hG]⟩

/-! Orders: 'bf x y': x stood ahead of y; 'lt': the order that is wanted. -/
structure Ord (lt bf : α → α → Prop) : Prop where
  trans : ∀ {x y z}, lt x y → lt y z → lt x z
  asymm : ∀ {x y}, lt x y → ¬ lt y x
  total : ∀ {x y}, bf x y → ¬ lt y x → lt x y
abbrev Sorted (lt : α → α → Prop) (L : List α) : Prop := L.Pairwise lt
/-- All of X stood ahead of all of Y. -/
def Ahead (bf : α → α → Prop) (X Y : List α) : Prop := ∀ x ∈ X, ∀ y ∈ Y, bf x y
variable {lt bf : α → α → Prop}
theorem Ahead.mono {X Y X' Y' : List α} (h : Ahead bf X Y) (hx : ∀ x ∈ X', x ∈ X) (hy : ∀ y ∈ Y', y ∈ Y) : Ahead bf X' Y' := fun x a y b => h x (hx x a) y (hy y b)

theorem perm_eq (O : Ord lt bf) : ∀ {A B : List α}, Sorted lt A → Sorted lt B → A.Perm B → A = B
  | [], B, _, _, h => (List.Perm.nil_eq h)
  | a :: A, B, hA, hB, h => by
    cases B with
    | nil => exact absurd h.symm.nil_eq (by simp)
    | cons b B =>
      have ha : a ∈ b :: B := h.mem_iff.1 (by simp)
      have hb : b ∈ a :: A := h.mem_iff.2 (by simp)
      have e : a = b := by
        rcases List.mem_cons.1 ha with e | ha
        · exact e
        · rcases List.mem_cons.1 hb with e | hb
          · exact e.symm
          · exact absurd ((List.pairwise_cons.1 hB).1 a ha) (O.asymm ((List.pairwise_cons.1 hA).1 b hb))
      subst e
      rw [perm_eq O (List.pairwise_cons.1 hA).2 (List.pairwise_cons.1 hB).2 (List.Perm.cons_inv h)]

/-- What stands in the middle is put into order. -/
structure Mid (lt : α → α → Prop) (P X S : List α) (L : List α) : Prop where
  ex : ∃ Z, L = P ++ Z ++ S ∧ Z.Perm X ∧ Sorted lt Z

/-- The place at which a merge parts. -/
structure Cut (lt : α → α → Prop) (X Y : List α) (k : Nat) (l : Nat) : Prop where
  kx : k ≤ X.length
  ly : l ≤ Y.length
  up : ∀ x ∈ X.take k, ∀ y ∈ Y.drop l, lt x y
  down : ∀ y ∈ Y.take l, ∀ x ∈ X.drop k, lt y x
theorem cut_merge {X Y Z1 Z2 : List α} {k l : Nat} (hc : Cut lt X Y k l) (hX : Sorted lt X) (hY : Sorted lt Y) (p1 : Z1.Perm (X.take k ++ Y.take l)) (p2 : Z2.Perm (X.drop k ++ Y.drop l)) (s1 : Sorted lt Z1) (s2 : Sorted lt Z2) :
    (Z1 ++ Z2).Perm (X ++ Y) ∧ Sorted lt (Z1 ++ Z2) := by
  refine ⟨?_, List.pairwise_append.2 ⟨s1, s2, fun a ha b hb => ?_⟩⟩
  · have h1 : (X.take k ++ Y.take l ++ (X.drop k ++ Y.drop l)).Perm (X.take k ++ (X.drop k ++ (Y.take l ++ Y.drop l))) := by
      rw [List.append_assoc]
      refine List.Perm.append_left _ ?_
      rw [← List.append_assoc, ← List.append_assoc]
      exact List.Perm.append_right _ List.perm_append_comm
    have e : X.take k ++ (X.drop k ++ (Y.take l ++ Y.drop l)) = X ++ Y := by
      rw [List.take_append_drop, ← List.append_assoc, List.take_append_drop]
    rw [e] at h1
    exact (p1.append p2).trans h1
  · have ha := p1.mem_iff.1 ha
    have hb := p2.mem_iff.1 hb
    have hXp : X = X.take k ++ X.drop k := (List.take_append_drop k X).symm
    have hYp : Y = Y.take l ++ Y.drop l := (List.take_append_drop l Y).symm
    rw [Sorted, hXp] at hX
    rw [Sorted, hYp] at hY
    rcases List.mem_append.1 ha with ha | ha <;> rcases List.mem_append.1 hb with hb | hb
    · exact (List.pairwise_append.1 hX).2.2 a ha b hb
    · exact hc.up a ha b hb
    · exact hc.down a ha b hb
    · exact (List.pairwise_append.1 hY).2.2 a ha b hb

/-! A search by halves. -/
structure Srch (R : Nat → Prop) (s0 r0 s r : Nat) : Prop where
  a : s0 ≤ s
  b : s ≤ r
  c : r ≤ r0
  lo : ∀ t, s0 ≤ t → t < s → R t
  hi : ∀ t, r ≤ t → t < r0 → ¬ R t
theorem Srch.start {R : Nat → Prop} {s0 r0 : Nat} (h : s0 ≤ r0) : Srch R s0 r0 s0 r0 := ⟨Nat.le_refl _, h, Nat.le_refl _, fun t a b => by omega, fun t a b => by omega⟩
theorem Srch.right {R : Nat → Prop} {s0 r0 s r c : Nat} (h : Srch R s0 r0 s r) (hm : ∀ t t', s0 ≤ t → t ≤ t' → t' < r0 → R t' → R t) (h1 : s ≤ c) (h2 : c < r) (hc : R c) : Srch R s0 r0 (c + 1) r :=
  ⟨by have := h.a; omega, by omega, h.c, fun t a b => hm t c a (by omega) (by have := h.c; omega) hc, h.hi⟩
theorem Srch.left {R : Nat → Prop} {s0 r0 s r c : Nat} (h : Srch R s0 r0 s r) (hm : ∀ t t', s0 ≤ t → t ≤ t' → t' < r0 → R t' → R t) (h1 : s ≤ c) (h2 : c < r) (hc : ¬ R c) : Srch R s0 r0 s c :=
  ⟨h.a, h1, by have := h.c; omega, h.lo, fun t a b hr => hc (hm c t (by have := h.a; omega) a b hr)⟩

theorem sorted_le (O : Ord lt bf) {X : List α} (h : Sorted lt X) {i j : Nat} (hij : i ≤ j) (hj : j < X.length) : X[i]'(by omega) = X[j] ∨ lt (X[i]'(by omega)) X[j] := by
  rcases Nat.lt_or_ge i j with h1 | h1
  · exact .inr (List.pairwise_iff_getElem.1 h i j (by omega) hj h1)
  · left; congr 1; omega

/-- The merge's question: is what stands behind less? -/
def Q (lt : α → α → Prop) (L : List α) (p t : Nat) : Prop := ∀ x y, L[t]? = some x → L[p - t]? = some y → ¬ lt y x
section
variable {P X Y S L : List α} {a m b : Nat}
theorem at_x (hL : L = P ++ X ++ Y ++ S) (hP : P.length = a) {t : Nat} (h1 : a ≤ t) (h2 : t < a + X.length) : L[t]? = some (X[t - a]'(by omega)) := by
  subst hL
  rw [List.append_assoc, List.append_assoc, List.getElem?_append_right (by omega), hP, List.getElem?_append_left (by omega)]
  exact List.getElem?_eq_getElem _
theorem at_y (hL : L = P ++ X ++ Y ++ S) (hP : P.length = a) (hX : a + X.length = m) {t : Nat} (h1 : m ≤ t) (h2 : t < m + Y.length) : L[t]? = some (Y[t - m]'(by omega)) := by
  subst hL
  have e : (P ++ X).length = m := by rw [List.length_append]; omega
  rw [List.append_assoc, List.getElem?_append_right (by omega), e, List.getElem?_append_left (by omega)]
  exact List.getElem?_eq_getElem _
/-- Which places a merge's search looks at. -/
def lo (a m b : Nat) : Nat := if (a + b) / 2 < m then (a + b) / 2 + m - b else a
def hi (a m b : Nat) : Nat := if (a + b) / 2 < m then (a + b) / 2 else m
theorem lo_hi (h1 : a < m) (h2 : m < b) : a ≤ lo a m b ∧ lo a m b ≤ hi a m b ∧ hi a m b ≤ m ∧ hi a m b ≤ (a + b) / 2 ∧ (a + b) / 2 + m - b ≤ lo a m b := by
  unfold lo hi
  split <;> omega
theorem look (h1 : a < m) (h2 : m < b) {t : Nat} (h3 : lo a m b ≤ t) (h4 : t < hi a m b) : a ≤ t ∧ t < m ∧ m ≤ (a + b) / 2 + m - 1 - t ∧ (a + b) / 2 + m - 1 - t < b := by
  unfold lo at h3; unfold hi at h4
  split at h3 <;> split at h4 <;> omega
theorem Q_mono (O : Ord lt bf) (hL : L = P ++ X ++ Y ++ S) (hP : P.length = a) (hX : a + X.length = m) (hY : m + Y.length = b) (sX : Sorted lt X) (sY : Sorted lt Y) (hA : Ahead bf X Y) (h1 : a < m) (h2 : m < b) :
    ∀ t t', lo a m b ≤ t → t ≤ t' → t' < hi a m b → Q lt L ((a + b) / 2 + m - 1) t' → Q lt L ((a + b) / 2 + m - 1) t := by
  intro t t' ht htt ht' hq x y hx hy hlt
  have l1 := look h1 h2 ht (by omega)
  have l2 := look h1 h2 (t := t') (by omega) ht'
  have e1 := at_x hL hP (t := t) l1.1 (by omega)
  have e2 := at_y hL hP hX (t := (a + b) / 2 + m - 1 - t) l1.2.2.1 (by omega)
  have e3 := at_x hL hP (t := t') l2.1 (by omega)
  have e4 := at_y hL hP hX (t := (a + b) / 2 + m - 1 - t') l2.2.2.1 (by omega)
  rw [e1] at hx; rw [e2] at hy
  obtain rfl := Option.some.inj hx
  obtain rfl := Option.some.inj hy
  have hn := hq _ _ e3 e4
  have h5 := O.total (hA _ (List.getElem_mem (by omega)) _ (List.getElem_mem (by omega))) hn
  have hx := sorted_le O sX (i := t - a) (j := t' - a) (by omega) (by omega)
  have hy := sorted_le O sY (i := (a + b) / 2 + m - 1 - t' - m) (j := (a + b) / 2 + m - 1 - t - m) (by omega) (by omega)
  have g1 : lt (X[t - a]'(by omega)) (Y[(a + b) / 2 + m - 1 - t' - m]'(by omega)) := by
    rcases hx with e | h
    · rw [e]; exact h5
    · exact O.trans h h5
  have g2 : lt (X[t - a]'(by omega)) (Y[(a + b) / 2 + m - 1 - t - m]'(by omega)) := by
    rcases hy with e | h
    · rw [← e]; exact g1
    · exact O.trans g1 h
  exact O.asymm g2 hlt
theorem cut_of (O : Ord lt bf) (hL : L = P ++ X ++ Y ++ S) (hP : P.length = a) (hX : a + X.length = m) (hY : m + Y.length = b) (sX : Sorted lt X) (sY : Sorted lt Y) (hA : Ahead bf X Y) (h1 : a < m) (h2 : m < b) {s : Nat}
    (h : Srch (Q lt L ((a + b) / 2 + m - 1)) (lo a m b) (hi a m b) s s) : Cut lt X Y (s - a) ((a + b) / 2 - s) := by
  have hlh := lo_hi h1 h2
  have hsa := h.a
  have hsc := h.c
  refine ⟨by omega, by omega, ?_, ?_⟩
  · intro x hx y hy
    obtain ⟨i, hi', rfl⟩ := List.getElem_of_mem hx
    obtain ⟨j, hj', rfl⟩ := List.getElem_of_mem hy
    rw [List.length_take] at hi'
    rw [List.length_drop] at hj'
    rw [List.getElem_take, List.getElem_drop]
    rcases Nat.lt_or_ge (lo a m b) s with hs | hs
    · have hq := h.lo (s - 1) (by omega) (by omega)
      have l1 := look h1 h2 (t := s - 1) (by omega) (by omega)
      have e1 := at_x hL hP (t := s - 1) l1.1 (by omega)
      have e2 := at_y hL hP hX (t := (a + b) / 2 + m - 1 - (s - 1)) l1.2.2.1 (by omega)
      have h5 := O.total (hA _ (List.getElem_mem (by omega)) _ (List.getElem_mem (by omega))) (hq _ _ e1 e2)
      have gx := sorted_le O sX (i := i) (j := s - 1 - a) (by omega) (by omega)
      have gy := sorted_le O sY (i := (a + b) / 2 + m - 1 - (s - 1) - m) (j := (a + b) / 2 - s + j) (by omega) (by omega)
      have g1 : lt (X[i]'(by omega)) (Y[(a + b) / 2 + m - 1 - (s - 1) - m]'(by omega)) := by
        rcases gx with e | h
        · rw [e]; exact h5
        · exact O.trans h h5
      rcases gy with e | h
      · rw [← e]; exact g1
      · exact O.trans g1 h
    · exfalso
      have : s = lo a m b := by omega
      unfold lo at this
      split at this <;> omega
  · intro y hy x hx
    obtain ⟨i, hi', rfl⟩ := List.getElem_of_mem hx
    obtain ⟨j, hj', rfl⟩ := List.getElem_of_mem hy
    rw [List.length_drop] at hi'
    rw [List.length_take] at hj'
    rw [List.getElem_take, List.getElem_drop]
    rcases Nat.lt_or_ge s (hi a m b) with hs | hs
    · have hq := h.hi s (Nat.le_refl _) hs
      have l1 := look h1 h2 (t := s) hsa hs
      have e1 := at_x hL hP (t := s) l1.1 (by omega)
      have e2 := at_y hL hP hX (t := (a + b) / 2 + m - 1 - s) l1.2.2.1 (by omega)
      have h5 : lt (Y[(a + b) / 2 + m - 1 - s - m]'(by omega)) (X[s - a]'(by omega)) := by
        by_cases hl : lt (Y[(a + b) / 2 + m - 1 - s - m]'(by omega)) (X[s - a]'(by omega))
        · exact hl
        · exfalso
          apply hq
          intro x y hx hy
          rw [e1] at hx; rw [e2] at hy
          obtain rfl := Option.some.inj hx
          obtain rfl := Option.some.inj hy
          exact hl
      have gx := sorted_le O sX (i := s - a) (j := s - a + i) (by omega) (by omega)
      have gy := sorted_le O sY (i := j) (j := (a + b) / 2 + m - 1 - s - m) (by omega) (by omega)
      have g1 : lt (Y[j]'(by omega)) (X[s - a]'(by omega)) := by
        rcases gy with e | h
        · rw [e]; exact h5
        · exact O.trans h h5
      rcases gx with e | h
      · rw [← e]; exact g1
      · exact O.trans g1 h
    · exfalso
      have : s = hi a m b := by omega
      unfold hi at this
      split at this <;> omega
end
end So
end Go.Proofs.YtfbhdkkmcfnghaaGreat
end
