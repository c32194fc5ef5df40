/- A stable sort by blocks and merges, in plain Lean: single elements, insertions, passes. No condition.; Spans as a tree, in plain Lean: roots, orphans, children, walks. No condition. -/
import Derived.Test.YtfbhdkkmcfnghaaGreatM03
import Derived.Test.YtfbhdkkmcfnghaaGreatM02

section
namespace Go.Proofs.YtfbhdkkmcfnghaaGreat
set_option linter.unusedVariables false
namespace So
variable {α : Type} {lt bf : α → α → Prop}

/-! One element ahead of a sorted row, or behind it. -/
def QL (lt : α → α → Prop) (x0 : α) (L : List α) (t : Nat) : Prop := ∀ y, L[t]? = some y → lt y x0
def QR (lt : α → α → Prop) (y0 : α) (L : List α) (t : Nat) : Prop := ∀ x, L[t]? = some x → ¬ lt y0 x
section
variable {P X Y S L : List α} {a m b : Nat} {x0 y0 : α}
theorem QL_mono (O : Ord lt bf) (hL : L = P ++ [x0] ++ Y ++ S) (hP : P.length = a) (hX : a + 1 = m) (hY : m + Y.length = b) (sY : Sorted lt Y) :
    ∀ t t', m ≤ t → t ≤ t' → t' < b → QL lt x0 L t' → QL lt x0 L t := by
  intro t t' h1 h2 h3 hq y hy
  have e1 := at_y (X := [x0]) hL hP hX (t := t) h1 (by omega)
  have e2 := at_y (X := [x0]) hL hP hX (t := t') (by omega) (by omega)
  rw [e1] at hy
  obtain rfl := Option.some.inj hy
  have h := hq _ e2
  rcases sorted_le O sY (i := t - m) (j := t' - m) (by omega) (by omega) with e | g
  · rw [e]; exact h
  · exact O.trans g h
theorem left_end (O : Ord lt bf) (hL : L = P ++ [x0] ++ Y ++ S) (hP : P.length = a) (hX : a + 1 = m) (hY : m + Y.length = b) (sY : Sorted lt Y) (hA : Ahead bf [x0] Y) {i : Nat}
    (h : Srch (QL lt x0 L) m b i i) : (Y.take (i - m) ++ x0 :: Y.drop (i - m)).Perm ([x0] ++ Y) ∧ Sorted lt (Y.take (i - m) ++ x0 :: Y.drop (i - m)) := by
  refine ⟨?_, ?_⟩
  · have : (x0 :: (Y.take (i - m) ++ Y.drop (i - m))).Perm ([x0] ++ Y) := by rw [List.take_append_drop]; exact List.Perm.refl _
    exact List.perm_middle.trans this
  · have hYp : Y = Y.take (i - m) ++ Y.drop (i - m) := (List.take_append_drop _ Y).symm
    have hs := sY
    rw [Sorted, hYp] at hs
    obtain ⟨s1, s2, s3⟩ := List.pairwise_append.1 hs
    have ha := h.a
    have hc := h.c
    refine List.pairwise_append.2 ⟨s1, List.pairwise_cons.2 ⟨fun y hy => ?_, s2⟩, fun y hy z hz => ?_⟩
    · obtain ⟨j, hj, rfl⟩ := List.getElem_of_mem hy
      rw [List.length_drop] at hj
      rw [List.getElem_drop]
      have hn := h.hi (i + j) (by omega) (by omega)
      have e1 := at_y (X := [x0]) hL hP hX (t := i + j) (by omega) (by omega)
      have e2 : i - m + j = i + j - m := by omega
      refine O.total (hA x0 (by simp) _ (List.getElem_mem _)) fun hlt => hn fun y hy => ?_
      rw [e1] at hy
      obtain rfl := Option.some.inj hy
      have : Y[i - m + j]'(by omega) = Y[i + j - m]'(by omega) := by congr 1
      rw [← this]; exact hlt
    · have hyx : lt y x0 := by
        obtain ⟨j, hj, rfl⟩ := List.getElem_of_mem hy
        rw [List.length_take] at hj
        rw [List.getElem_take]
        have hn := h.lo (m + j) (by omega) (by omega)
        have e1 := at_y (X := [x0]) hL hP hX (t := m + j) (by omega) (by omega)
        have := hn _ e1
        have e : Y[m + j - m]'(by omega) = Y[j]'(by omega) := by congr 1; omega
        rw [← e]; exact this
      rcases List.mem_cons.1 hz with rfl | hz
      · exact hyx
      · exact s3 y hy z hz
/-- The element on its way to the right. -/
def MvL (P Y S : List α) (x0 : α) (t : Nat) (L : List α) : Prop := L = P ++ Y.take t ++ x0 :: (Y.drop t ++ S)
theorem mvL_step (hP : P.length = a) {t k : Nat} (hk : k = a + t) (ht : t < Y.length) (h : MvL P Y S x0 t L) :
    ∃ y, L[k]? = some x0 ∧ L[k + 1]? = some y ∧ MvL P Y S x0 (t + 1) ((L.set k y).set (k + 1) x0) := by
  unfold MvL at h ⊢
  have hY : Y.drop t = Y[t] :: Y.drop (t + 1) := List.drop_eq_getElem_cons ht
  obtain ⟨h1, h2, h3⟩ := swap_two (A := P ++ Y.take t) (B := []) (C := Y.drop (t + 1) ++ S) (x := x0) (y := Y[t]) (i := k) (j := k + 1) (L := L) (by simp; omega) (by simp) (by rw [h, hY]; simp only [List.cons_append, List.nil_append])
  refine ⟨_, h1, h2, ?_⟩
  rw [h3, List.take_succ_eq_append_getElem ht]
  simp only [List.append_assoc, List.cons_append, List.nil_append]

theorem QR_mono (O : Ord lt bf) (hL : L = P ++ X ++ [y0] ++ S) (hP : P.length = a) (hX : a + X.length = m) (sX : Sorted lt X) (hA : Ahead bf X [y0]) :
    ∀ t t', a ≤ t → t ≤ t' → t' < m → QR lt y0 L t' → QR lt y0 L t := by
  intro t t' h1 h2 h3 hq x hx hlt
  have e1 := at_x (Y := [y0]) hL hP (t := t) h1 (by omega)
  have e2 := at_x (Y := [y0]) hL hP (t := t') (by omega) (by omega)
  rw [e1] at hx
  obtain rfl := Option.some.inj hx
  have h := O.total (hA _ (List.getElem_mem _) y0 (by simp)) (hq _ e2)
  rcases sorted_le O sX (i := t - a) (j := t' - a) (by omega) (by omega) with e | g
  · rw [e] at hlt; exact O.asymm h hlt
  · exact O.asymm (O.trans g h) hlt
theorem right_end (O : Ord lt bf) (hL : L = P ++ X ++ [y0] ++ S) (hP : P.length = a) (hX : a + X.length = m) (sX : Sorted lt X) (hA : Ahead bf X [y0]) {i : Nat}
    (h : Srch (QR lt y0 L) a m i i) : (X.take (i - a) ++ y0 :: X.drop (i - a)).Perm (X ++ [y0]) ∧ Sorted lt (X.take (i - a) ++ y0 :: X.drop (i - a)) := by
  refine ⟨?_, ?_⟩
  · have : (y0 :: (X.take (i - a) ++ X.drop (i - a))).Perm (X ++ [y0]) := by rw [List.take_append_drop]; exact (List.perm_append_singleton y0 X).symm
    exact List.perm_middle.trans this
  · have hXp : X = X.take (i - a) ++ X.drop (i - a) := (List.take_append_drop _ X).symm
    have hs := sX
    rw [Sorted, hXp] at hs
    obtain ⟨s1, s2, s3⟩ := List.pairwise_append.1 hs
    have ha := h.a
    have hc := h.c
    refine List.pairwise_append.2 ⟨s1, List.pairwise_cons.2 ⟨fun y hy => ?_, s2⟩, fun y hy z hz => ?_⟩
    · obtain ⟨j, hj, rfl⟩ := List.getElem_of_mem hy
      rw [List.length_drop] at hj
      rw [List.getElem_drop]
      have hn := h.hi (i + j) (by omega) (by omega)
      have e1 := at_x (Y := [y0]) hL hP (t := i + j) (by omega) (by omega)
      have e : X[i + j - a]'(by omega) = X[i - a + j]'(by omega) := by congr 1; omega
      by_cases hl : lt y0 (X[i - a + j]'(by omega))
      · exact hl
      · exfalso
        apply hn
        intro x hx hlt
        rw [e1] at hx
        obtain rfl := Option.some.inj hx
        rw [e] at hlt
        exact hl hlt
    · have hyx : lt y y0 := by
        obtain ⟨j, hj, rfl⟩ := List.getElem_of_mem hy
        rw [List.length_take] at hj
        rw [List.getElem_take]
        have hn := h.lo (a + j) (by omega) (by omega)
        have e1 := at_x (Y := [y0]) hL hP (t := a + j) (by omega) (by omega)
        have := hn _ e1
        have e : X[a + j - a]'(by omega) = X[j]'(by omega) := by congr 1; omega
        rw [e] at this
        exact O.total (hA _ (List.getElem_mem _) y0 (by simp)) this
      rcases List.mem_cons.1 hz with rfl | hz
      · exact hyx
      · exact s3 y hy z hz
/-- The element on its way to the left. -/
theorem mvR_step (hP : P.length = a) {t k : Nat} (hk : k = a + t) (h0 : 0 < t) (ht : t ≤ X.length) (h : MvL P X S y0 t L) :
    ∃ x, L[k]? = some y0 ∧ L[k - 1]? = some x ∧ X[t - 1]? = some x ∧ MvL P X S y0 (t - 1) ((L.set k x).set (k - 1) y0) := by
  unfold MvL at h ⊢
  have hX : X.take t = X.take (t - 1) ++ [X[t - 1]'(by omega)] := by
    conv => lhs; rw [show t = t - 1 + 1 by omega]
    exact List.take_succ_eq_append_getElem (by omega)
  have hD : X.drop (t - 1) = X[t - 1]'(by omega) :: X.drop t := by
    have := List.drop_eq_getElem_cons (l := X) (i := t - 1) (by omega)
    rw [show t - 1 + 1 = t by omega] at this
    exact this
  have hL : L = (P ++ X.take (t - 1)) ++ (X[t - 1]'(by omega)) :: ([] ++ y0 :: (X.drop t ++ S)) := by rw [h, hX]; simp only [List.append_assoc, List.cons_append, List.nil_append]
  obtain ⟨h1, h2, _⟩ := swap_two (i := k - 1) (j := k) (by simp; omega) (by simp; omega) hL
  have h3 := swap_two' (i := k - 1) (j := k) (by simp; omega) (by simp; omega) hL
  refine ⟨_, h2, h1, List.getElem?_eq_getElem (by omega), ?_⟩
  rw [h3, hD]
  simp only [List.append_assoc, List.cons_append, List.nil_append]
end
/-- An insertion has come to its end. -/
theorem ins_end (O : Ord lt bf) {Z : List α} {x : α} {t : Nat} (sZ : Sorted lt Z) (hA : Ahead bf Z [x]) (ht : t ≤ Z.length) (hd : ∀ z ∈ Z.drop t, lt x z) (hs : ∀ z, 0 < t → Z[t - 1]? = some z → ¬ lt x z) :
    (Z.take t ++ x :: Z.drop t).Perm (Z ++ [x]) ∧ Sorted lt (Z.take t ++ x :: Z.drop t) := by
  refine ⟨?_, ?_⟩
  · have : (x :: (Z.take t ++ Z.drop t)).Perm (Z ++ [x]) := by rw [List.take_append_drop]; exact (List.perm_append_singleton x Z).symm
    exact List.perm_middle.trans this
  · have hZp : Z = Z.take t ++ Z.drop t := (List.take_append_drop _ Z).symm
    have hs2 := sZ
    rw [Sorted, hZp] at hs2
    obtain ⟨s1, s2, s3⟩ := List.pairwise_append.1 hs2
    refine List.pairwise_append.2 ⟨s1, List.pairwise_cons.2 ⟨hd, s2⟩, fun y hy z hz => ?_⟩
    have hyx : lt y x := by
      obtain ⟨j, hj, rfl⟩ := List.getElem_of_mem hy
      rw [List.length_take] at hj
      rw [List.getElem_take]
      have h1 := O.total (hA _ (List.getElem_mem _) x (by simp)) (hs _ (by omega) (List.getElem?_eq_getElem (l := Z) (i := t - 1) (by omega)))
      rcases sorted_le O sZ (i := j) (j := t - 1) (by omega) (by omega) with e | g
      · rw [e]; exact h1
      · exact O.trans g h1
    rcases List.mem_cons.1 hz with rfl | hz
    · exact hyx
    · exact s3 y hy z hz
theorem drop_pred {Z : List α} {t : Nat} {x z : α} (h0 : 0 < t) (hz : Z[t - 1]? = some z) (hx : lt x z) (hd : ∀ z ∈ Z.drop t, lt x z) : ∀ z ∈ Z.drop (t - 1), lt x z := by
  have hl : t - 1 < Z.length := by
    rcases Nat.lt_or_ge (t - 1) Z.length with h | h
    · exact h
    · rw [List.getElem?_eq_none h] at hz; cases hz
  rw [List.getElem?_eq_getElem hl] at hz
  obtain rfl := Option.some.inj hz
  intro y hy
  rw [List.drop_eq_getElem_cons hl, show t - 1 + 1 = t by omega] at hy
  rcases List.mem_cons.1 hy with rfl | hy
  · exact hx
  · exact hd y hy

/-! Passes. -/
/-- The first pass: blocks that are sorted, and a rest as it stood. -/
structure Ph (lt bf : α → α → Prop) (L0 : List α) (c : Nat) (L : List α) (a : Nat) : Prop where
  ex : ∃ (D : List (List α)) (R : List α), L = D.flatten ++ R ∧ D.flatten.length = a ∧ (∀ B ∈ D, B.length = c ∧ Sorted lt B) ∧ D.Pairwise (Ahead bf) ∧ (∀ B ∈ D, Ahead bf B R) ∧ R.Pairwise bf ∧ L.Perm L0
/-- Blocks of one length that are sorted, and a shorter one. -/
structure St (lt bf : α → α → Prop) (L0 : List α) (c : Nat) (L : List α) : Prop where
  ex : ∃ (F : List (List α)) (r : List α), L = F.flatten ++ r ∧ (∀ B ∈ F, B.length = c ∧ Sorted lt B) ∧ Sorted lt r ∧ r.length < c ∧ (F ++ [r]).Pairwise (Ahead bf) ∧ L.Perm L0
/-- A pass of merges: blocks of twice that length ahead of those that are still to be merged. -/
structure Ps (lt bf : α → α → Prop) (L0 : List α) (c : Nat) (L : List α) (a : Nat) : Prop where
  ex : ∃ (D F : List (List α)) (r : List α), L = D.flatten ++ (F.flatten ++ r) ∧ D.flatten.length = a ∧ (∀ B ∈ D, B.length = 2 * c ∧ Sorted lt B) ∧ (∀ B ∈ F, B.length = c ∧ Sorted lt B) ∧ Sorted lt r ∧ r.length < c ∧ (D ++ (F ++ [r])).Pairwise (Ahead bf) ∧ L.Perm L0

theorem Ph.start {L : List α} {c : Nat} (h : L.Pairwise bf) : Ph lt bf L c L 0 := ⟨[], L, rfl, rfl, by simp, by simp, by simp, h, List.Perm.refl _⟩
theorem Ph.step {L0 L : List α} {c a : Nat} (h : Ph lt bf L0 c L a) (hl : a + c ≤ L.length) :
    ∃ P X S, L = P ++ X ++ S ∧ P.length = a ∧ P.length + X.length = a + c ∧ X.Pairwise bf ∧ ∀ L', Mid lt P X S L' → Ph lt bf L0 c L' (a + c) := by
  obtain ⟨D, R, hL, hD, hB, hP, hA, hR, hp⟩ := h.ex
  have hl2 : L.length = a + R.length := by rw [hL, List.length_append, hD]
  have hRp : R = R.take c ++ R.drop c := (List.take_append_drop c R).symm
  refine ⟨D.flatten, R.take c, R.drop c, by rw [hL, List.append_assoc, List.take_append_drop], hD, by rw [List.length_take, hD]; omega, ?_, ?_⟩
  · rw [hRp] at hR; exact (List.pairwise_append.1 hR).1
  · intro L' ⟨Z, hL', hZ, sZ⟩
    rw [hRp] at hR
    obtain ⟨r1, r2, r3⟩ := List.pairwise_append.1 hR
    refine ⟨D ++ [Z], R.drop c, by rw [hL']; simp, ?_, ?_, ?_, ?_, r2, ?_⟩
    · rw [List.flatten_append, List.length_append, hD]
      have := hZ.length_eq
      simp [this]; omega
    · intro B hB'
      rcases List.mem_append.1 hB' with h | h
      · exact hB B h
      · simp at h; subst h
        exact ⟨by rw [hZ.length_eq, List.length_take]; omega, sZ⟩
    · refine List.pairwise_append.2 ⟨hP, by simp, fun B hB' C hC => ?_⟩
      simp at hC; subst hC
      exact (hA B hB').mono (fun x hx => hx) (fun y hy => List.mem_of_mem_take (hZ.mem_iff.1 hy))
    · intro B hB'
      rcases List.mem_append.1 hB' with h | h
      · exact (hA B h).mono (fun x hx => hx) (fun y hy => List.mem_of_mem_drop hy)
      · simp at h; subst h
        exact fun x hx y hy => r3 x (hZ.mem_iff.1 hx) y hy
    · refine List.Perm.trans ?_ hp
      rw [hL', hL]
      conv => rhs; rw [hRp, ← List.append_assoc]
      exact List.Perm.append_right _ (List.Perm.append_left _ hZ)
theorem Ph.last {L0 L : List α} {c a : Nat} (h : Ph lt bf L0 c L a) (hl : ¬ a + c ≤ L.length) :
    ∃ P X, L = P ++ X ++ [] ∧ P.length = a ∧ P.length + X.length = L.length ∧ X.Pairwise bf ∧ ∀ L', Mid lt P X [] L' → St lt bf L0 c L' := by
  obtain ⟨D, R, hL, hD, hB, hP, hA, hR, hp⟩ := h.ex
  have hl2 : L.length = a + R.length := by rw [hL, List.length_append, hD]
  refine ⟨D.flatten, R, by simp [hL], hD, by omega, hR, ?_⟩
  intro L' ⟨Z, hL', hZ, sZ⟩
  have hzl := hZ.length_eq
  refine ⟨D, Z, by simpa using hL', hB, sZ, by omega, ?_, ?_⟩
  · refine List.pairwise_append.2 ⟨hP, by simp, fun B hB' C hC => ?_⟩
    simp at hC; subst hC
    exact (hA B hB').mono (fun x hx => hx) (fun y hy => hZ.mem_iff.1 hy)
  · refine List.Perm.trans ?_ hp
    rw [hL', hL, List.append_nil]
    exact List.Perm.append_left _ hZ
theorem St.pass {L0 L : List α} {c : Nat} (h : St lt bf L0 c L) : Ps lt bf L0 c L 0 := by
  obtain ⟨F, r, a1, a2, a3, a4, a5, a6⟩ := h.ex
  exact ⟨[], F, r, by simpa using a1, rfl, by simp, a2, a3, a4, by simpa using a5, a6⟩
theorem flat_len {F : List (List α)} {c : Nat} (h : ∀ B ∈ F, B.length = c ∧ Sorted lt B) : F.flatten.length = F.length * c := by
  induction F with
  | nil => simp
  | cons B F ih =>
    rw [List.flatten_cons, List.length_append, (h B (by simp)).1, ih fun C hC => h C (List.mem_cons_of_mem B hC), List.length_cons, Nat.succ_mul]
    omega
theorem ahead_app {X Y Z : List α} {C : List α} (hx : Ahead bf X C) (hy : Ahead bf Y C) (h : Z.Perm (X ++ Y)) : Ahead bf Z C := fun z hz c hc => by
  rcases List.mem_append.1 (h.mem_iff.1 hz) with hz | hz
  · exact hx z hz c hc
  · exact hy z hz c hc
theorem app_ahead {X Y Z : List α} {C : List α} (hx : Ahead bf C X) (hy : Ahead bf C Y) (h : Z.Perm (X ++ Y)) : Ahead bf C Z := fun c hc z hz => by
  rcases List.mem_append.1 (h.mem_iff.1 hz) with hz | hz
  · exact hx c hc z hz
  · exact hy c hc z hz
theorem Ps.step {L0 L : List α} {c a : Nat} (h : Ps lt bf L0 c L a) (hl : a + 2 * c ≤ L.length) :
    ∃ P X Y S, L = P ++ X ++ Y ++ S ∧ P.length = a ∧ a + X.length = a + c ∧ a + c + Y.length = a + 2 * c ∧ Sorted lt X ∧ Sorted lt Y ∧ Ahead bf X Y ∧ ∀ L', Mid lt P (X ++ Y) S L' → Ps lt bf L0 c L' (a + 2 * c) := by
  obtain ⟨D, F, r, hL, hD, hB, hF, sr, hr, hp, hpm⟩ := h.ex
  have hfl := flat_len hF
  have hl2 : L.length = a + (F.length * c + r.length) := by rw [hL, List.length_append, hD, List.length_append, hfl]
  match F, hF, hp, hL, hl2, hfl with
  | [], _, _, _, hl2, _ => exfalso; simp at hl2; omega
  | [X], _, _, _, hl2, _ => exfalso; simp at hl2; omega
  | X :: Y :: F', hF, hp, hL, hl2, _ =>
    obtain ⟨p1, p2, p3⟩ := List.pairwise_append.1 hp
    rw [List.cons_append, List.cons_append] at p2 p3
    obtain ⟨q1, q2⟩ := List.pairwise_cons.1 p2
    obtain ⟨q3, q4⟩ := List.pairwise_cons.1 q2
    refine ⟨D.flatten, X, Y, F'.flatten ++ r, by rw [hL]; simp, hD, by rw [(hF X (by simp)).1], by rw [(hF Y (by simp)).1]; omega, (hF X (by simp)).2, (hF Y (by simp)).2, q1 Y (by simp), ?_⟩
    intro L' ⟨Z, hL', hZ, sZ⟩
    have hzl : Z.length = 2 * c := by rw [hZ.length_eq, List.length_append, (hF X (by simp)).1, (hF Y (by simp)).1]; omega
    refine ⟨D ++ [Z], F', r, by rw [hL']; simp, by rw [List.flatten_append, List.length_append, hD]; simp [hzl], ?_, fun B hB' => hF B (by simp [hB']), sr, hr, ?_, ?_⟩
    · intro B hB'
      rcases List.mem_append.1 hB' with h | h
      · exact hB B h
      · simp at h; subst h; exact ⟨hzl, sZ⟩
    · refine List.pairwise_append.2 ⟨List.pairwise_append.2 ⟨p1, by simp, fun B hB' C hC => ?_⟩, q4, fun B hB' C hC => ?_⟩
      · simp at hC; subst hC
        exact app_ahead (p3 B hB' X (by simp)) (p3 B hB' Y (by simp)) hZ
      · rcases List.mem_append.1 hB' with h | h
        · exact p3 B h C (List.mem_cons_of_mem _ (List.mem_cons_of_mem _ hC))
        · simp at h; subst h
          exact ahead_app (q1 C (List.mem_cons_of_mem _ hC)) (q3 C hC) hZ
    · refine List.Perm.trans ?_ hpm
      rw [hL', hL, List.append_assoc]
      refine List.Perm.append_left _ ?_
      have e : (X :: Y :: F').flatten ++ r = (X ++ Y) ++ (F'.flatten ++ r) := by simp
      rw [e]
      exact List.Perm.append_right _ hZ
theorem Ps.last {L0 L : List α} {c a : Nat} (h : Ps lt bf L0 c L a) (hl : ¬ a + 2 * c ≤ L.length) (hm : a + c < L.length) :
    ∃ P X Y, L = P ++ X ++ Y ++ [] ∧ P.length = a ∧ a + X.length = a + c ∧ a + c + Y.length = L.length ∧ Sorted lt X ∧ Sorted lt Y ∧ Ahead bf X Y ∧ ∀ L', Mid lt P (X ++ Y) [] L' → St lt bf L0 (2 * c) L' := by
  obtain ⟨D, F, r, hL, hD, hB, hF, sr, hr, hp, hpm⟩ := h.ex
  have hfl := flat_len hF
  have hl2 : L.length = a + (F.length * c + r.length) := by rw [hL, List.length_append, hD, List.length_append, hfl]
  match F, hF, hp, hL, hl2, hfl with
  | [], _, _, _, hl2, _ => exfalso; simp at hl2; omega
  | X :: Y :: F', _, _, _, hl2, _ =>
    exfalso
    simp only [List.length_cons, Nat.succ_mul] at hl2
    omega
  | [X], hF, hp, hL, hl2, _ =>
    obtain ⟨p1, p2, p3⟩ := List.pairwise_append.1 hp
    rw [List.cons_append, List.nil_append] at p2 p3
    obtain ⟨q1, q2⟩ := List.pairwise_cons.1 p2
    have hxl := (hF X (by simp)).1
    simp at hl2
    refine ⟨D.flatten, X, r, by rw [hL]; simp, hD, by omega, by omega, (hF X (by simp)).2, sr, q1 r (by simp), ?_⟩
    intro L' ⟨Z, hL', hZ, sZ⟩
    have hzl := hZ.length_eq
    rw [List.length_append] at hzl
    refine ⟨D, Z, by simpa using hL', hB, sZ, by omega, ?_, ?_⟩
    · refine List.pairwise_append.2 ⟨p1, by simp, fun B hB' C hC => ?_⟩
      simp at hC; subst hC
      exact app_ahead (p3 B hB' X (by simp)) (p3 B hB' r (by simp)) hZ
    · refine List.Perm.trans ?_ hpm
      rw [hL', hL, List.append_nil]
      refine List.Perm.append_left _ ?_
      simpa using hZ
theorem Ps.done {L0 L : List α} {c a : Nat} (h : Ps lt bf L0 c L a) (hc : 0 < c) (hl : ¬ a + 2 * c ≤ L.length) (hm : ¬ a + c < L.length) : St lt bf L0 (2 * c) L := by
  obtain ⟨D, F, r, hL, hD, hB, hF, sr, hr, hp, hpm⟩ := h.ex
  have hfl := flat_len hF
  have hl2 : L.length = a + (F.length * c + r.length) := by rw [hL, List.length_append, hD, List.length_append, hfl]
  match F, hF, hp, hL, hl2, hfl with
  | X :: Y :: F', _, _, _, hl2, _ =>
    exfalso
    simp only [List.length_cons, Nat.succ_mul] at hl2
    omega
  | [], _, hp, hL, hl2, _ => exact ⟨D, r, by simpa using hL, hB, sr, by omega, by simpa using hp, hpm⟩
  | [X], hF, hp, hL, hl2, _ =>
    simp at hl2
    have hr0 : r = [] := List.eq_nil_of_length_eq_zero (by omega)
    subst hr0
    obtain ⟨p1, p2, p3⟩ := List.pairwise_append.1 hp
    have hxl := (hF X (by simp)).1
    refine ⟨D, X, by simpa using hL, hB, (hF X (by simp)).2, by omega, ?_, hpm⟩
    exact List.pairwise_append.2 ⟨p1, by simp, fun B hB' C hC => by simp at hC; subst hC; exact p3 B hB' C (by simp)⟩
theorem St.all {L0 L : List α} {c : Nat} (h : St lt bf L0 c L) (hl : L.length ≤ c) : Sorted lt L ∧ L.Perm L0 := by
  obtain ⟨F, r, hL, hF, sr, hr, hp, hpm⟩ := h.ex
  have hfl := flat_len hF
  have hl2 : L.length = F.length * c + r.length := by rw [hL, List.length_append, hfl]
  refine ⟨?_, hpm⟩
  match F, hF, hL, hl2 with
  | [], _, hL, _ => rw [hL]; simpa using sr
  | [X], hF, hL, hl2 =>
    simp at hl2
    have hr0 : r = [] := List.eq_nil_of_length_eq_zero (by omega)
    subst hr0
    rw [hL]
    simpa using (hF X (by simp)).2
  | X :: Y :: F', _, _, hl2 =>
    exfalso
    simp only [List.length_cons, Nat.succ_mul] at hl2
    omega
end So
end Go.Proofs.YtfbhdkkmcfnghaaGreat
end

section
namespace Go.Proofs.YtfbhdkkmcfnghaaGreat
set_option linter.unusedVariables false
namespace Tr

def sp (L : List Sp) (i : Nat) : Sp := L.getD i ⟨0, 0, 0, 0, [], 0, 0, 0, false, 0, 0⟩
def places (L : List Sp) (p : Sp → Bool) : List Nat := (List.range L.length).filter fun i => p (sp L i)
def roots (L : List Sp) : List Nat := places L fun s => s.up == 0
def lost_ (L : List Sp) (s : Sp) : Bool := s.up != 0 && !L.any fun x => x.id == s.up
def orphans (L : List Sp) : List Nat := places L (lost_ L)
/-- Children stand by Seq, those of one Seq by their places. -/
def lt (L : List Sp) (x y : Nat) : Prop := (sp L x).sq < (sp L y).sq ∨ ((sp L x).sq = (sp L y).sq ∧ x < y)
def bf (x y : Nat) : Prop := x < y
theorem ord (L : List Sp) : So.Ord (lt L) bf where
  trans := by
    intro x y z h k
    unfold lt at *
    omega
  asymm := by
    intro x y h k
    unfold lt at *
    omega
  total := by
    intro x y h k
    unfold lt bf at *
    omega
/-- A place is put among others, behind all whose Seq is not greater. -/
def ins (L : List Sp) (x : Nat) : List Nat → List Nat
  | [] => [x]
  | y :: t => if (sp L y).sq ≤ (sp L x).sq then y :: ins L x t else x :: y :: t
def sort (L : List Sp) (A : List Nat) : List Nat := A.foldl (fun out x => ins L x out) []
def raw (L : List Sp) (at_ : Nat) : List Nat := places L fun s => s.up == (sp L at_).id
def kids (L : List Sp) (at_ : Nat) : List Nat := if at_ < L.length ∧ (sp L at_).id ≠ 0 then sort L (raw L at_) else []

theorem places_sorted (L : List Sp) (p : Sp → Bool) : (places L p).Pairwise bf := List.Pairwise.filter _ List.pairwise_lt_range
theorem places_mem {L : List Sp} {p : Sp → Bool} {i : Nat} : i ∈ places L p ↔ i < L.length ∧ p (sp L i) = true := by simp [places]
theorem places_len (L : List Sp) (p : Sp → Bool) : (places L p).length ≤ L.length := by
  have := List.length_filter_le (fun i => p (sp L i)) (List.range L.length)
  simpa [places] using this
theorem ins_perm (L : List Sp) (x : Nat) : ∀ A, (ins L x A).Perm (x :: A)
  | [] => List.Perm.refl _
  | y :: t => by
    unfold ins
    split
    · exact (List.Perm.cons y (ins_perm L x t)).trans (List.Perm.swap x y t)
    · exact List.Perm.refl _
theorem ins_sorted {L : List Sp} {x : Nat} : ∀ {A : List Nat}, So.Sorted (lt L) A → (∀ y ∈ A, y < x) → So.Sorted (lt L) (ins L x A)
  | [], _, _ => by simp [ins]
  | y :: t, hs, hb => by
    obtain ⟨h1, h2⟩ := List.pairwise_cons.1 hs
    unfold ins
    split
    · rename_i hle
      refine List.pairwise_cons.2 ⟨fun z hz => ?_, ins_sorted h2 fun z hz => hb z (List.mem_cons_of_mem y hz)⟩
      rcases List.mem_cons.1 ((ins_perm L x t).mem_iff.1 hz) with rfl | hz
      · have := hb y (by simp)
        unfold lt; omega
      · exact h1 z hz
    · rename_i hle
      have hxy : lt L x y := by unfold lt; omega
      exact List.pairwise_cons.2 ⟨fun z hz => by
        rcases List.mem_cons.1 hz with rfl | hz
        · exact hxy
        · exact (ord L).trans hxy (h1 z hz), hs⟩
theorem sort_ok {L : List Sp} : ∀ {A out : List Nat}, (out ++ A).Pairwise bf ∨ (A.Pairwise bf ∧ ∀ x ∈ out, ∀ y ∈ A, x < y) → So.Sorted (lt L) out → So.Sorted (lt L) (A.foldl (fun out x => ins L x out) out) ∧ (A.foldl (fun out x => ins L x out) out).Perm (out ++ A)
  | [], out, _, hs => ⟨hs, by simp⟩
  | x :: A, out, h, hs => by
    have h' : (x :: A).Pairwise bf ∧ ∀ y ∈ out, ∀ z ∈ x :: A, y < z := by
      rcases h with h | h
      · obtain ⟨a, b, c⟩ := List.pairwise_append.1 h; exact ⟨b, c⟩
      · exact h
    obtain ⟨h1, h2⟩ := h'
    obtain ⟨h3, h4⟩ := List.pairwise_cons.1 h1
    have hi := ins_sorted (L := L) (x := x) hs fun y hy => h2 y hy x (by simp)
    have hp := ins_perm L x out
    obtain ⟨r1, r2⟩ := sort_ok (L := L) (A := A) (out := ins L x out) (.inr ⟨h4, fun y hy z hz => by
      rcases List.mem_cons.1 (hp.mem_iff.1 hy) with rfl | hy
      · exact h3 z hz
      · exact h2 y hy z (List.mem_cons_of_mem x hz)⟩) hi
    refine ⟨r1, r2.trans ?_⟩
    exact (List.Perm.append_right A hp).trans List.perm_middle.symm
theorem sort_sorted {L : List Sp} {A : List Nat} (h : A.Pairwise bf) : So.Sorted (lt L) (sort L A) ∧ (sort L A).Perm A := by
  have := sort_ok (L := L) (A := A) (out := []) (.inl (by simpa using h)) (by simp)
  simpa [sort] using this
theorem sort_eq {L : List Sp} {A Z : List Nat} (h : A.Pairwise bf) (hz : So.Sorted (lt L) Z) (hp : Z.Perm A) : Z = sort L A :=
  So.perm_eq (ord L) hz (sort_sorted h).1 (hp.trans (sort_sorted h).2.symm)
theorem raw_sorted (L : List Sp) (at_ : Nat) : (raw L at_).Pairwise bf := places_sorted L _
theorem kids_mem {L : List Sp} {at_ i : Nat} : i ∈ kids L at_ ↔ at_ < L.length ∧ (sp L at_).id ≠ 0 ∧ i < L.length ∧ (sp L i).up = (sp L at_).id := by
  unfold kids
  split
  · rename_i h
    rw [(sort_sorted (raw_sorted L at_)).2.mem_iff, raw, places_mem]
    simp [h]
  · rename_i h
    simp only [List.not_mem_nil, false_iff]
    intro h2
    exact h ⟨h2.1, h2.2.1⟩
theorem kids_len (L : List Sp) (at_ : Nat) : (kids L at_).length ≤ L.length := by
  unfold kids
  split
  · rw [(sort_sorted (raw_sorted L at_)).2.length_eq]; exact places_len _ _
  · simp

/-! What one comes to. -/
/-- What is still to do, the next one ahead, and what stands already. -/
def stk (K : Nat → List Nat) : Nat → List (Nat × Nat) → List (Nat × Nat) → List (Nat × Nat)
  | 0, _, out => out
  | _ + 1, [], out => out
  | f + 1, (x, d) :: t, out => if x ∈ out.map Prod.fst then stk K f t out else stk K f ((K x).map (fun k => (k, d + 1)) ++ t) (out ++ [(x, d)])
/-- By calls of itself. -/
def dfs (K : Nat → List Nat) : Nat → Nat → Nat → List (Nat × Nat) → List (Nat × Nat)
  | 0, _, _, seen => seen
  | f + 1, at_, d, seen => if at_ ∈ seen.map Prod.fst then seen else (K at_).foldl (fun s k => dfs K f k (d + 1) s) (seen ++ [(at_, d)])
/-- How much is to do at most. -/
def mea (N : Nat) (todo out : List (Nat × Nat)) : Nat := (N - out.length) * (N + 2) + todo.length
/-- Places and their number. -/
structure Fit (K : Nat → List Nat) (N : Nat) : Prop where
  len : ∀ x, (K x).length ≤ N
  lt : ∀ x, ∀ k ∈ K x, k < N
structure Out (N : Nat) (out : List (Nat × Nat)) : Prop where
  nd : (out.map Prod.fst).Nodup
  lt : ∀ x ∈ out.map Prod.fst, x < N
theorem nodup_le : ∀ (N : Nat) (l : List Nat), l.Nodup → (∀ x ∈ l, x < N) → l.length ≤ N
  | 0, l, _, h => by
    cases l with
    | nil => simp
    | cons a t => exact absurd (h a (by simp)) (by omega)
  | N + 1, l, hn, h => by
    have h1 := nodup_le N (l.erase N) (hn.erase N) fun x hx => by
      have h2 := h x (List.mem_of_mem_erase hx)
      have h3 := (hn.mem_erase_iff.1 hx).1
      omega
    have h4 := List.length_erase (a := N) (l := l)
    split at h4 <;> omega
theorem Out.len {N : Nat} {out : List (Nat × Nat)} (h : Out N out) : out.length ≤ N := by
  have := nodup_le N _ h.nd h.lt
  simpa using this
theorem Out.push {N : Nat} {out : List (Nat × Nat)} (h : Out N out) {x d : Nat} (hx : x < N) (hn : x ∉ out.map Prod.fst) : Out N (out ++ [(x, d)]) := by
  refine ⟨?_, fun y hy => ?_⟩
  · rw [List.map_append]
    refine List.nodup_append.2 ⟨h.nd, by simp, fun a ha b hb => ?_⟩
    simp at hb; subst hb
    intro e; subst e; exact hn ha
  · rw [List.map_append] at hy
    rcases List.mem_append.1 hy with hy | hy
    · exact h.lt y hy
    · simp at hy; subst hy; exact hx
theorem Out.more {N : Nat} {out : List (Nat × Nat)} (h : Out N out) {x : Nat} (hx : x < N) (hn : x ∉ out.map Prod.fst) : out.length + 1 ≤ N := by
  have := (h.push (d := 0) hx hn).len
  simpa using this
theorem mea_skip {N : Nat} {x : Nat × Nat} {t out : List (Nat × Nat)} : mea N (x :: t) out = mea N t out + 1 := by unfold mea; simp only [List.length_cons]; omega
theorem mea_push {K : Nat → List Nat} {N : Nat} (hK : Fit K N) {x d : Nat} {t out : List (Nat × Nat)} (h : out.length + 1 ≤ N) :
    mea N ((K x).map (fun k => (k, d + 1)) ++ t) (out ++ [(x, d)]) < mea N ((x, d) :: t) out := by
  unfold mea
  have := hK.len x
  simp only [List.length_append, List.length_map, List.length_cons, List.length_nil]
  have e : N - out.length = N - (out.length + 1) + 1 := by omega
  rw [e, Nat.add_mul]
  generalize (N - (out.length + 1)) * (N + 2) = q
  omega
/-- With enough steps it is the same. -/
theorem stk_fuel {K : Nat → List Nat} {N : Nat} (hK : Fit K N) : ∀ f g todo out, Out N out → (∀ x ∈ todo.map Prod.fst, x < N) → mea N todo out < f → mea N todo out < g → stk K f todo out = stk K g todo out
  | 0, _, _, _, _, _, h, _ => by omega
  | _ + 1, 0, _, _, _, _, _, h => by omega
  | f + 1, g + 1, [], out, _, _, _, _ => rfl
  | f + 1, g + 1, (x, d) :: t, out, ho, ht, h1, h2 => by
    unfold stk
    split
    · rw [mea_skip] at h1 h2
      exact stk_fuel hK f g t out ho (fun y hy => ht y (by simp at hy ⊢; exact .inr hy)) (by omega) (by omega)
    · rename_i hn
      have hx : x < N := ht x (by simp)
      have hm := mea_push hK (x := x) (d := d) (t := t) (ho.more hx hn)
      refine stk_fuel hK f g _ _ (ho.push hx hn) (fun y hy => ?_) (by omega) (by omega)
      rw [List.map_append, List.mem_append] at hy
      rcases hy with hy | hy
      · obtain ⟨p, hp, rfl⟩ := List.mem_map.1 hy
        obtain ⟨k, hk, rfl⟩ := List.mem_map.1 hp
        exact hK.lt x k hk
      · exact ht y (by simp at hy ⊢; exact .inr hy)
def run (K : Nat → List Nat) (N : Nat) (todo out : List (Nat × Nat)) : List (Nat × Nat) := stk K (mea N todo out + 1) todo out
theorem run_nil (K : Nat → List Nat) (N : Nat) (out : List (Nat × Nat)) : run K N [] out = out := by unfold run; rfl
theorem run_skip {K : Nat → List Nat} {N : Nat} (hK : Fit K N) {x d : Nat} {t out : List (Nat × Nat)} (ho : Out N out) (ht : ∀ y ∈ ((x, d) :: t).map Prod.fst, y < N) (h : x ∈ out.map Prod.fst) : run K N ((x, d) :: t) out = run K N t out := by
  unfold run
  conv => lhs; unfold stk
  rw [if_pos h]
  exact stk_fuel hK _ _ _ _ ho (fun y hy => ht y (by simp at hy ⊢; exact .inr hy)) (by rw [mea_skip]; omega) (by omega)
theorem run_push {K : Nat → List Nat} {N : Nat} (hK : Fit K N) {x d : Nat} {t out : List (Nat × Nat)} (ho : Out N out) (ht : ∀ y ∈ ((x, d) :: t).map Prod.fst, y < N) (h : x ∉ out.map Prod.fst) :
    run K N ((x, d) :: t) out = run K N ((K x).map (fun k => (k, d + 1)) ++ t) (out ++ [(x, d)]) := by
  unfold run
  conv => lhs; unfold stk
  rw [if_neg h]
  have hx : x < N := ht x (by simp)
  have hm := mea_push hK (x := x) (d := d) (t := t) (ho.more hx h)
  refine stk_fuel hK _ _ _ _ (ho.push hx h) (fun y hy => ?_) (by omega) (by omega)
  rw [List.map_append, List.mem_append] at hy
  rcases hy with hy | hy
  · obtain ⟨p, hp, rfl⟩ := List.mem_map.1 hy
    obtain ⟨k, hk, rfl⟩ := List.mem_map.1 hp
    exact hK.lt x k hk
  · exact ht y (by simp at hy ⊢; exact .inr hy)
theorem dfs_out {K : Nat → List Nat} {N : Nat} (hK : Fit K N) : ∀ f x d out, Out N out → x < N → Out N (dfs K f x d out) ∧ out.length ≤ (dfs K f x d out).length
  | 0, _, _, out, ho, _ => ⟨ho, Nat.le_refl _⟩
  | f + 1, x, d, out, ho, hx => by
    unfold dfs
    split
    · exact ⟨ho, Nat.le_refl _⟩
    · rename_i hn
      have key : ∀ (A : List Nat) (s : List (Nat × Nat)), (∀ k ∈ A, k < N) → Out N s → Out N (A.foldl (fun s k => dfs K f k (d + 1) s) s) ∧ s.length ≤ (A.foldl (fun s k => dfs K f k (d + 1) s) s).length := by
        intro A
        induction A with
        | nil => intro s _ hs; exact ⟨hs, Nat.le_refl _⟩
        | cons k A ih =>
          intro s hA hs
          have h1 := dfs_out hK f k (d + 1) s hs (hA k (by simp))
          have h2 := ih _ (fun k' hk' => hA k' (List.mem_cons_of_mem k hk')) h1.1
          exact ⟨h2.1, Nat.le_trans h1.2 h2.2⟩
      have := key (K x) (out ++ [(x, d)]) (hK.lt x) (ho.push hx hn)
      refine ⟨this.1, ?_⟩
      have h3 := this.2
      rw [List.length_append] at h3
      exact Nat.le_trans (Nat.le_add_right _ _) h3
/-- The list that is gone through and the calls give the same. -/
theorem run_dfs {K : Nat → List Nat} {N : Nat} (hK : Fit K N) : ∀ f x d t out, Out N out → (∀ y ∈ ((x, d) :: t).map Prod.fst, y < N) → N - out.length < f → run K N ((x, d) :: t) out = run K N t (dfs K f x d out)
  | 0, _, _, _, _, _, _, h => by omega
  | f + 1, x, d, t, out, ho, ht, hf => by
    have hx : x < N := ht x (by simp)
    have htt : ∀ y ∈ t.map Prod.fst, y < N := fun y hy => ht y (by simp at hy ⊢; exact .inr hy)
    unfold dfs
    split
    · rename_i h; exact run_skip hK ho ht h
    · rename_i hn
      rw [run_push hK ho ht hn]
      have hm := ho.more hx hn
      have key : ∀ (A : List Nat) (s : List (Nat × Nat)), (∀ k ∈ A, k < N) → Out N s → out.length + 1 ≤ s.length → run K N (A.map (fun k => (k, d + 1)) ++ t) s = run K N t (A.foldl (fun s k => dfs K f k (d + 1) s) s) := by
        intro A
        induction A with
        | nil => intro s _ _ _; rfl
        | cons k A ih =>
          intro s hA hs hsl
          have hA2 : ∀ k' ∈ A, k' < N := fun k' hk' => hA k' (List.mem_cons_of_mem k hk')
          have h1 := dfs_out hK f k (d + 1) s hs (hA k (by simp))
          rw [List.map_cons, List.cons_append, run_dfs hK f k (d + 1) (A.map (fun k => (k, d + 1)) ++ t) s hs (fun y hy => by
            rw [List.map_cons, List.map_append, List.mem_cons, List.mem_append] at hy
            rcases hy with rfl | hy | hy
            · exact hA _ (by simp)
            · obtain ⟨p, hp, rfl⟩ := List.mem_map.1 hy
              obtain ⟨k', hk', rfl⟩ := List.mem_map.1 hp
              exact hA2 k' hk'
            · exact htt y hy) (by omega), ih _ hA2 h1.1 (by omega)]
          rfl
      exact key (K x) (out ++ [(x, d)]) (hK.lt x) (ho.push hx hn) (by simp)
theorem fit (L : List Sp) : Fit (kids L) L.length := ⟨kids_len L, fun x k hk => (kids_mem.1 hk).2.2.1⟩
/-- What one comes to from a place, with depths. -/
def walk (L : List Sp) (at_ : Nat) : List (Nat × Nat) := if at_ < L.length then run (kids L) L.length [(at_, 0)] [] else []
theorem walk_dfs {L : List Sp} {at_ f : Nat} (h : at_ < L.length) (hf : L.length < f) : walk L at_ = dfs (kids L) f at_ 0 [] := by
  unfold walk
  rw [if_pos h, run_dfs (fit L) f at_ 0 [] [] ⟨by simp, by simp⟩ (by simpa using h) (by simpa using hf), run_nil]
def lost (L : List Sp) : List Nat := (List.range L.length).filter fun i => !((roots L ++ orphans L).flatMap fun t => (walk L t).map Prod.fst).contains i
end Tr
end Go.Proofs.YtfbhdkkmcfnghaaGreat
end
