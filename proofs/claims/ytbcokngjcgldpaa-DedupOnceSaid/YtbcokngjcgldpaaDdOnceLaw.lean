/- What DedupOnce rests on, in plain Lean. No condition. -/
import Derived.Test.YtbcokngjcgldpaaDdPlays
namespace Go.Proofs.Ytbcokngjcgldpaa
set_option linter.unusedVariables false

theorem snoc_rec {α : Type} {p : List α → Prop} (h0 : p []) (h1 : ∀ t a, p t → p (t ++ [a])) (l : List α) : p l := by
  rw [← List.reverse_reverse l]
  induction l.reverse with
  | nil => exact h0
  | cons a t ih => rw [List.reverse_cons]; exact h1 _ _ ih
namespace Dd
/-- What was fresh of all moves. -/
def came (M : List Mv) : List Mv := (M.foldl (fun (p : List Wi × List Mv) m => ((fresh p.1 m.1 m.2).1, if (fresh p.1 m.1 m.2).2 then p.2 ++ [m] else p.2)) ([], [])).2
theorem came_fst (M : List Mv) : (M.foldl (fun (p : List Wi × List Mv) m => ((fresh p.1 m.1 m.2).1, if (fresh p.1 m.1 m.2).2 then p.2 ++ [m] else p.2)) ([], [])).1 = run M := by
  unfold run
  suffices ∀ L C, (M.foldl (fun (p : List Wi × List Mv) m => ((fresh p.1 m.1 m.2).1, if (fresh p.1 m.1 m.2).2 then p.2 ++ [m] else p.2)) (L, C)).1 = M.foldl (fun L m => (fresh L m.1 m.2).1) L from this [] []
  induction M with
  | nil => intro L C; rfl
  | cons m t ih => intro L C; exact ih _ _
theorem came_snoc (M : List Mv) (m : Mv) : came (M ++ [m]) = if (fresh (run M) m.1 m.2).2 then came M ++ [m] else came M := by
  unfold came
  rw [List.foldl_append]
  simp only [List.foldl_cons, List.foldl_nil]
  rw [came_fst]
theorem run_snoc (M : List Mv) (m : Mv) : run (M ++ [m]) = (fresh (run M) m.1 m.2).1 := by
  unfold run
  rw [List.foldl_append]
  rfl
theorem came_len (M : List Mv) : (came M).length ≤ M.length := by
  induction M using snoc_rec with
  | h0 => simp [came]
  | h1 t m ih =>
    rw [came_snoc]
    split <;> simp <;> omega

/-- A number that its window has had. -/
def Cov (L : List Wi) (c : Mv) : Prop := ∃ w ∈ L, w.n = c.1 ∧ c.2 ≤ w.h ∧ (128 ≤ w.h - c.2 ∨ c.2 ∈ w.s)
theorem cov_step {w w' : Wi} {x y : Int} (hs : step w x = some w') (hy : y ≤ w.h ∧ (128 ≤ w.h - y ∨ y ∈ w.s)) : y ≤ w'.h ∧ (128 ≤ w'.h - y ∨ y ∈ w'.s) := by
  unfold step at hs
  split at hs
  · rename_i h1
    simp at hs; subst hs
    refine ⟨by simp [high]; omega, ?_⟩
    by_cases h2 : x - 128 < y
    · right
      rcases hy.2 with h3 | h3
      · omega
      · simp only [high, List.mem_append, List.mem_filter, decide_eq_true_eq]
        exact .inl ⟨h3, h2⟩
    · left; simp [high]; omega
  · split at hs
    · simp at hs
    · simp at hs; subst hs
      refine ⟨hy.1, ?_⟩
      rcases hy.2 with h3 | h3
      · exact .inl h3
      · right
        show y ∈ ins x w.s
        rw [mem_ins]
        by_cases e : y = x
        · exact .inl e
        · exact .inr ⟨h3, e⟩
theorem step_self {w w' : Wi} {x : Int} (hs : step w x = some w') : x ≤ w'.h ∧ (128 ≤ w'.h - x ∨ x ∈ w'.s) := by
  unfold step at hs
  split at hs
  · simp at hs; subst hs
    exact ⟨by simp [high], .inr (by simp [high])⟩
  · split at hs
    · simp at hs
    · rename_i h1 h2
      simp at hs; subst hs
      exact ⟨by simp [low]; omega, .inr (mem_ins.2 (.inl rfl))⟩
theorem step_cov {w : Wi} {x : Int} (h : x ≤ w.h ∧ (128 ≤ w.h - x ∨ x ∈ w.s)) : step w x = none := by
  unfold step
  rw [if_neg (by omega), if_pos h.2]
theorem fresh_cases (L : List Wi) (node x : Int) : (fresh L node x = (L, false)) ∨ (bad node x = false ∧ pl L node = none ∧ fresh L node x = (L ++ [⟨node, x, [x]⟩], true)) ∨
    ∃ i, ∃ hi : i < L.length, ∃ w', bad node x = false ∧ pl L node = some i ∧ L[i].n = node ∧ step L[i] x = some w' ∧ fresh L node x = (L.set i w', true) := by
  cases hb : bad node x
  · cases hp : pl L node with
    | none => exact .inr (.inl ⟨rfl, rfl, by unfold fresh; rw [hb, hp]; rfl⟩)
    | some i =>
      obtain ⟨hi, hn, _⟩ := pl_some hp
      cases hs : step L[i] x with
      | none => exact .inl (by unfold fresh; rw [hb, hp]; simp only [Bool.false_eq_true, if_false]; rw [List.getElem?_eq_getElem hi]; simp only; rw [hs])
      | some w' => exact .inr (.inr ⟨i, hi, w', rfl, rfl, hn, hs, by unfold fresh; rw [hb, hp]; simp only [Bool.false_eq_true, if_false]; rw [List.getElem?_eq_getElem hi]; simp only; rw [hs]⟩)
  · exact .inl (by unfold fresh; rw [hb]; rfl)
theorem fresh_no {L L' : List Wi} {node x : Int} (h : fresh L node x = (L', false)) : L' = L := by
  rcases fresh_cases L node x with h1 | ⟨_, _, h1⟩ | ⟨i, hi, w', _, _, _, _, h1⟩ <;> rw [h] at h1 <;> simp at h1
  exact h1
theorem cov_keep {L : List Wi} {node x : Int} {c : Mv} (h : Cov L c) : Cov (fresh L node x).1 c := by
  obtain ⟨w, hw, hn, hc⟩ := h
  rcases fresh_cases L node x with h1 | ⟨_, _, h1⟩ | ⟨i, hi, w', _, _, hn', hs, h1⟩ <;> rw [h1]
  · exact ⟨w, hw, hn, hc⟩
  · exact ⟨w, by simp [hw], hn, hc⟩
  · obtain ⟨k, hk, rfl⟩ := List.getElem_of_mem hw
    by_cases e : k = i
    · subst e
      refine ⟨w', List.mem_iff_getElem.2 ⟨k, by simpa using hk, by simp⟩, ?_, cov_step hs hc⟩
      have : w'.n = L[k].n := by
        unfold step at hs
        split at hs
        · simp at hs; subst hs; rfl
        · split at hs
          · simp at hs
          · simp at hs; subst hs; rfl
      rw [this, hn]
    · exact ⟨L[k], List.mem_iff_getElem.2 ⟨k, by simpa using hk, by rw [List.getElem_set]; rw [if_neg (by omega)]⟩, hn, hc⟩
theorem cov_new {L : List Wi} {node x : Int} (h : (fresh L node x).2 = true) : Cov (fresh L node x).1 (node, x) := by
  rcases fresh_cases L node x with h1 | ⟨_, _, h1⟩ | ⟨i, hi, w', _, _, hn', hs, h1⟩ <;> rw [h1] at h ⊢
  · simp at h
  · exact ⟨⟨node, x, [x]⟩, by simp, rfl, by simp, .inr (by simp)⟩
  · refine ⟨w', List.mem_iff_getElem.2 ⟨i, by simpa using hi, by simp⟩, ?_, step_self hs⟩
    have : w'.n = L[i].n := by
      unfold step at hs
      split at hs
      · simp at hs; subst hs; rfl
      · split at hs
        · simp at hs
        · simp at hs; subst hs; rfl
    rw [this, hn']
theorem cov_no {L : List Wi} {c : Mv} (hok : Ok L) (h : Cov L c) : (fresh L c.1 c.2).2 = false := by
  obtain ⟨w, hw, hn, hc⟩ := h
  rcases fresh_cases L c.1 c.2 with h1 | ⟨_, hp, h1⟩ | ⟨i, hi, w', _, hp, hn', hs, h1⟩ <;> rw [h1]
  · exact absurd hn (pl_none hp w hw)
  · obtain ⟨k, hk, rfl⟩ := List.getElem_of_mem hw
    have hki : k = i := by
      rcases Nat.lt_trichotomy k i with h | h | h
      · exact absurd (hn.trans hn'.symm) (List.pairwise_iff_getElem.1 hok.apart k i hk hi h)
      · exact h
      · exact absurd (hn'.trans hn.symm) (List.pairwise_iff_getElem.1 hok.apart i k hi hk h)
    subst hki
    rw [step_cov hc] at hs
    cases hs
theorem came_cov (M : List Mv) : ∀ c ∈ came M, Cov (run M) c := by
  induction M using snoc_rec with
  | h0 => simp [came]
  | h1 t m ih =>
    intro c hc
    rw [came_snoc] at hc
    rw [run_snoc]
    split at hc
    · rename_i hf
      rcases List.mem_append.1 hc with hc | hc
      · exact cov_keep (ih c hc)
      · simp at hc; subst hc
        exact cov_new hf
    · exact cov_keep (ih c hc)
theorem came_apart {M : List Mv} {m c : Mv} (hf : (fresh (run M) m.1 m.2).2 = true) (hc : c ∈ came M) : c ≠ m := by
  rintro rfl
  rw [cov_no (run_ok M) (came_cov M c hc)] at hf
  cases hf

/-- What came of one node is not minded by another. -/
theorem filter_set {L : List Wi} {i : Nat} {w' : Wi} (hi : i < L.length) (p : Wi → Bool) (h1 : p L[i] = false) (h2 : p w' = false) : (L.set i w').filter p = L.filter p := by
  induction L generalizing i with
  | nil => rfl
  | cons a t ih =>
    cases i with
    | zero => simp at h1; simp [h1, h2]
    | succ i => simp at h1 hi; simp [List.filter_cons, ih hi h1]
theorem step_n {w w' : Wi} {x : Int} (hs : step w x = some w') : w'.n = w.n := by
  unfold step at hs
  split at hs
  · simp at hs; subst hs; rfl
  · split at hs
    · simp at hs
    · simp at hs; subst hs; rfl
theorem fresh_other {L : List Wi} {node n x : Int} (hne : node ≠ n) : (fresh L node x).1.filter (·.n == n) = L.filter (·.n == n) := by
  rcases fresh_cases L node x with h1 | ⟨_, hp, h1⟩ | ⟨i, hi, w', _, hp, hn', hs, h1⟩ <;> rw [h1]
  · simp [hne]
  · exact filter_set hi _ (by simp; omega) (by rw [step_n hs, hn']; simpa using hne)
theorem filter_one {L : List Wi} {i : Nat} (hok : L.Pairwise fun a b => a.n ≠ b.n) (hi : i < L.length) : L.filter (·.n == L[i].n) = [L[i]] := by
  induction L generalizing i with
  | nil => simp at hi
  | cons a t ih =>
    have hp := List.pairwise_cons.1 hok
    cases i with
    | zero =>
      simp
      intro b hb
      have := hp.1 b hb
      omega
    | succ i =>
      simp at hi ⊢
      have h1 := hp.1 t[i] (List.getElem_mem hi)
      rw [List.filter_cons_of_neg (by simpa using h1)]
      exact ih hp.2 hi
theorem fresh_same {L : List Wi} {n x : Int} (hok : Ok L) : (fresh L n x).1.filter (·.n == n) = (fresh (L.filter (·.n == n)) n x).1 := by
  have hok2 := hok.fresh (node := n) (x := x)
  cases hb : bad n x
  · cases hp : pl L n with
    | none =>
      have hf : L.filter (·.n == n) = [] := by
        rw [List.filter_eq_nil_iff]
        intro w hw
        simpa using pl_none hp w hw
      rw [hf]
      unfold fresh
      rw [hb, hp]
      simp [hf, pl]
    | some i =>
      obtain ⟨hi, hn, _⟩ := pl_some hp
      have hone := filter_one hok.apart hi
      rw [hn] at hone
      rw [hone]
      have hp1 : pl [L[i]] n = some 0 := by simp [pl, hn]
      unfold fresh at hok2 ⊢
      rw [hb, hp1]
      rw [hb] at hok2
      rw [hp] at hok2 ⊢
      simp only [Bool.false_eq_true, if_false] at hok2 ⊢
      rw [List.getElem?_eq_getElem hi] at hok2 ⊢
      simp only [List.getElem?_cons_zero] at hok2 ⊢
      cases hs : step L[i] x with
      | none => simpa using hone
      | some w' =>
        rw [hs] at hok2
        simp only at hok2 ⊢
        have hi' : i < (L.set i w').length := by simpa using hi
        have := filter_one hok2.apart hi'
        simp only [List.getElem_set_self] at this
        rw [step_n hs, hn] at this
        simpa using this
  · unfold fresh
    rw [hb]
    rfl
theorem run_filter (M : List Mv) (n : Int) : run (M.filter (·.1 == n)) = (run M).filter (·.n == n) := by
  induction M using snoc_rec with
  | h0 => simp [run]
  | h1 t m ih =>
    rw [List.filter_append, run_snoc]
    by_cases e : m.1 = n
    · rw [show List.filter (fun (q : Mv) => q.1 == n) [m] = [m] by simp [e], run_snoc, ih, e]
      exact (fresh_same (run_ok t)).symm
    · rw [show List.filter (fun (q : Mv) => q.1 == n) [m] = [] by simp [e], List.append_nil, ih, fresh_other e]
theorem run_alone {M : List Mv} {w : Wi} {t : List Wi} (h : run M = w :: t) : run (M.filter (·.1 == w.n)) = [w] := by
  rw [run_filter, h]
  exact filter_one (i := 0) (h ▸ (run_ok M).apart) (by simp)
end Dd
end Go.Proofs.Ytbcokngjcgldpaa
