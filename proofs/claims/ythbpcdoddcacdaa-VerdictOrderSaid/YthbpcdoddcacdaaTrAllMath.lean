/- What a walk of a tree has, in plain Lean: all children, and depths that rise by one at most. No condition. -/
import Derived.Test.YthbpcdoddcacdaaTrMath
namespace Go.Proofs.Ythbpcdoddcacdaa
set_option linter.unusedVariables false
namespace Tr
theorem run_ind {K : Nat → List Nat} {N : Nat} (hK : Fit K N) (I : List (Nat × Nat) → List (Nat × Nat) → Prop)
    (hskip : ∀ x d t out, I ((x, d) :: t) out → x ∈ out.map Prod.fst → I t out)
    (hpush : ∀ x d t out, I ((x, d) :: t) out → x ∉ out.map Prod.fst → I ((K x).map (fun k => (k, d + 1)) ++ t) (out ++ [(x, d)])) :
    ∀ f todo out, Out N out → (∀ y ∈ todo.map Prod.fst, y < N) → mea N todo out < f → I todo out → I [] (run K N todo out)
  | 0, _, _, _, _, h, _ => absurd h (by omega)
  | f + 1, [], out, ho, ht, hf, hI => by rw [run_nil]; exact hI
  | f + 1, (x, d) :: t, out, ho, ht, hf, hI => by
    have hx : x < N := ht x (by simp)
    have htt : ∀ y ∈ t.map Prod.fst, y < N := fun y hy => ht y (by simp at hy ⊢; exact .inr hy)
    by_cases h : x ∈ out.map Prod.fst
    · rw [run_skip hK ho ht h]
      exact run_ind hK I hskip hpush f t out ho htt (by rw [mea_skip] at hf; omega) (hskip x d t out hI h)
    · rw [run_push hK ho ht h]
      have hm := mea_push hK (x := x) (d := d) (t := t) (ho.more hx h)
      refine run_ind hK I hskip hpush f _ _ (ho.push hx h) (fun y hy => ?_) (by omega) (hpush x d t out hI h)
      rw [List.map_append, List.mem_append] at hy
      rcases hy with hy | hy
      · obtain ⟨p, hp, rfl⟩ := List.mem_map.1 hy
        obtain ⟨k, hk, rfl⟩ := List.mem_map.1 hp
        exact hK.lt x k hk
      · exact htt y hy
/-- A walk has all children of what it has. -/
theorem walk_kids (L : List Sp) (at_ : Nat) : ∀ x ∈ (walk L at_).map Prod.fst, ∀ k ∈ kids L x, k ∈ (walk L at_).map Prod.fst := by
  unfold walk
  split
  · rename_i h
    have := run_ind (fit L) (fun todo out => ∀ x ∈ out.map Prod.fst, ∀ k ∈ kids L x, k ∈ out.map Prod.fst ∨ k ∈ todo.map Prod.fst)
      (fun x d t out hI hx y hy k hk => by
        rcases hI y hy k hk with h | h
        · exact .inl h
        · simp only [List.map_cons, List.mem_cons] at h
          rcases h with rfl | h
          · exact .inl hx
          · exact .inr h)
      (fun x d t out hI hx y hy k hk => by
        rw [List.map_append, List.mem_append] at hy
        rw [List.map_append, List.mem_append, List.map_append, List.mem_append]
        rcases hy with hy | hy
        · rcases hI y hy k hk with h | h
          · exact .inl (.inl h)
          · simp only [List.map_cons, List.mem_cons] at h
            rcases h with rfl | h
            · exact .inl (.inr (by simp))
            · exact .inr (.inr h)
        · simp only [List.map_cons, List.map_nil, List.mem_singleton] at hy
          subst hy
          exact .inr (.inl (by simpa using hk)))
      _ [(at_, 0)] [] ⟨by simp, by simp⟩ (by simpa using h) (Nat.lt_succ_self _) (by simp)
    intro x hx k hk
    rcases this x hx k hk with h | h
    · exact h
    · simp at h
  · simp
/-- Depths: the first is 0, no other; each rises by one at most. -/
def Dep (out : List (Nat × Nat)) : Prop := ∀ i (h : i < out.length), (out[i].2 = 0 ↔ i = 0) ∧ ∀ (h0 : 0 < i), out[i].2 ≤ (out[i - 1]'(by omega)).2 + 1
def lastD (out : List (Nat × Nat)) : Nat := (out.getLast?.map Prod.snd).getD 0
theorem Dep.push {out : List (Nat × Nat)} {x d : Nat} (h : Dep out) (hne : out ≠ []) (h0 : 0 < d) (hd : d ≤ lastD out + 1) : Dep (out ++ [(x, d)]) := by
  intro i hi
  have hpos : 0 < out.length := List.length_pos_iff.2 hne
  simp only [List.length_append, List.length_cons, List.length_nil] at hi
  by_cases hlt : i < out.length
  · have hk := h i hlt
    refine ⟨by rw [List.getElem_append_left hlt]; exact hk.1, fun hi0 => ?_⟩
    rw [List.getElem_append_left hlt, List.getElem_append_left (show i - 1 < out.length by omega)]
    exact hk.2 hi0
  · obtain rfl : i = out.length := by omega
    refine ⟨?_, fun hi0 => ?_⟩
    · simp only [List.getElem_append_right (Nat.le_refl _), Nat.sub_self, List.getElem_cons_zero]; omega
    · rw [List.getElem_append_left (show out.length - 1 < out.length by omega)]
      simp only [List.getElem_append_right (Nat.le_refl _), Nat.sub_self, List.getElem_cons_zero]
      have e : lastD out = (out[out.length - 1]'(by omega)).2 := by
        unfold lastD
        rw [List.getLast?_eq_getElem?, List.getElem?_eq_getElem (by omega)]
        rfl
      rw [← e]
      exact hd
theorem lastD_push (out : List (Nat × Nat)) (x d : Nat) : lastD (out ++ [(x, d)]) = d := by unfold lastD; simp
theorem walk_dep (L : List Sp) (at_ : Nat) : Dep (walk L at_) := by
  unfold walk
  split
  · rename_i h
    have := run_ind (fit L) (fun todo out => (out = [] ∧ todo = [(at_, 0)]) ∨ (out ≠ [] ∧ Dep out ∧ todo.Pairwise (fun p q => q.2 ≤ p.2) ∧ (∀ p ∈ todo, 0 < p.2) ∧ ∀ p ∈ todo, p.2 ≤ lastD out + 1))
      (fun x d t out hI hx => by
        rcases hI with ⟨rfl, _⟩ | ⟨h1, h2, h3, h4, h5⟩
        · simp at hx
        · exact .inr ⟨h1, h2, (List.pairwise_cons.1 h3).2, fun p hp => h4 p (List.mem_cons_of_mem _ hp), fun p hp => h5 p (List.mem_cons_of_mem _ hp)⟩)
      (fun x d t out hI hx => by
        refine .inr ⟨by simp, ?_⟩
        rcases hI with ⟨rfl, ht⟩ | ⟨h1, h2, h3, h4, h5⟩
        · simp only [List.cons.injEq, Prod.mk.injEq] at ht
          obtain ⟨⟨rfl, rfl⟩, rfl⟩ := ht
          refine ⟨?_, ?_, ?_, ?_⟩
          · intro i hi
            simp at hi
            subst hi
            simp
          · rw [List.append_nil, List.pairwise_map]
            exact List.pairwise_of_forall fun _ _ => Nat.le_refl _
          · intro p hp
            simp at hp
            obtain ⟨k, _, rfl⟩ := hp
            simp
          · intro p hp
            rw [lastD_push]
            simp at hp
            obtain ⟨k, _, rfl⟩ := hp
            simp
        · have hd0 := h4 (x, d) (by simp)
          have hd5 := h5 (x, d) (by simp)
          have ht := (List.pairwise_cons.1 h3).1
          refine ⟨h2.push h1 hd0 hd5, ?_, ?_, ?_⟩
          · rw [List.pairwise_append]
            refine ⟨by rw [List.pairwise_map]; exact List.pairwise_of_forall fun _ _ => Nat.le_refl _, (List.pairwise_cons.1 h3).2, fun p hp q hq => ?_⟩
            obtain ⟨k, _, rfl⟩ := List.mem_map.1 hp
            have := ht q hq
            simp only at this ⊢
            omega
          · intro p hp
            rcases List.mem_append.1 hp with hp | hp
            · obtain ⟨k, _, rfl⟩ := List.mem_map.1 hp
              simp
            · exact h4 p (List.mem_cons_of_mem _ hp)
          · intro p hp
            rw [lastD_push]
            rcases List.mem_append.1 hp with hp | hp
            · obtain ⟨k, _, rfl⟩ := List.mem_map.1 hp
              simp
            · have := ht p hp
              simp only at this
              omega)
      _ [(at_, 0)] [] ⟨by simp, by simp⟩ (by simpa using h) (Nat.lt_succ_self _) (.inl ⟨rfl, rfl⟩)
    rcases this with ⟨_, h⟩ | ⟨_, h, _⟩
    · simp at h
    · exact h
  · intro i hi
    simp at hi
end Tr
end Go.Proofs.Ythbpcdoddcacdaa
