/- Texts, escaped, in plain Lean. No condition. -/
namespace Go.Proofs.YtkhepehgafijfaaDoor.Ln

def hexd (n : Nat) : UInt8 := if n < 10 then UInt8.ofNat (48 + n) else UInt8.ofNat (87 + n)
def escB (b : UInt8) : List UInt8 :=
  if b.toNat < 32 ∨ 126 < b.toNat then [92, 120, hexd (b.toNat / 16), hexd (b.toNat % 16)] else if b = 34 ∨ b = 92 then [92, b] else [b]
def esc (l : List UInt8) : List UInt8 := if l = [] then [45] else l.flatMap escB

theorem each {p : UInt8 → Prop} (h : ∀ n, n < 256 → p (UInt8.ofNat n)) (b : UInt8) : p b := by
  have := h b.toNat (UInt8.toNat_lt b)
  rwa [UInt8.ofNat_toNat] at this

theorem escB_plain (b : UInt8) : ∀ c ∈ escB b, 32 ≤ c.toNat ∧ c.toNat ≤ 126 :=
  each (p := fun b => ∀ c ∈ escB b, 32 ≤ c.toNat ∧ c.toNat ≤ 126) (by decide +kernel) b
theorem escB_len (b : UInt8) : 1 ≤ (escB b).length ∧ (escB b).length ≤ 4 :=
  each (p := fun b => 1 ≤ (escB b).length ∧ (escB b).length ≤ 4) (by decide +kernel) b

theorem esc_plain (l : List UInt8) : ∀ c ∈ esc l, 32 ≤ c.toNat ∧ c.toNat ≤ 126 := by
  intro c hc
  unfold esc at hc
  split at hc
  · simp at hc; subst hc; decide
  · obtain ⟨b, _, h⟩ := List.mem_flatMap.1 hc
    exact escB_plain b c h

theorem flat_len (l : List UInt8) : l.length ≤ (l.flatMap escB).length ∧ (l.flatMap escB).length ≤ 4 * l.length := by
  induction l with
  | nil => simp
  | cons b t ih => have := escB_len b; simp only [List.flatMap_cons, List.length_append, List.length_cons]; omega
theorem esc_len (l : List UInt8) : l.length ≤ (esc l).length ∧ (esc l).length ≤ 4 * l.length + 1 := by
  unfold esc
  split
  · rename_i h; subst h; simp
  · have := flat_len l; omega

/-- The first byte of what was escaped, and the rest. -/
def dec : List UInt8 → UInt8 × List UInt8
  | a :: b :: x :: y :: r =>
    if a = 92 then (if b = 120 then (UInt8.ofNat (16 * (if x.toNat < 58 then x.toNat - 48 else x.toNat - 87) + (if y.toNat < 58 then y.toNat - 48 else y.toNat - 87)), r) else (b, x :: y :: r)) else (a, b :: x :: y :: r)
  | [a, b, x] => if a = 92 then (b, [x]) else (a, [b, x])
  | [a, b] => if a = 92 then (b, []) else (a, [b])
  | [a] => (a, [])
  | [] => (0, [])

theorem dec_one (a : UInt8) (r : List UInt8) (h : a ≠ 92) : dec (a :: r) = (a, r) := by
  match r with
  | [] => rfl
  | [b] => simp [dec, h]
  | [b, x] => simp [dec, h]
  | b :: x :: y :: r => simp [dec, h]
theorem dec_two (b : UInt8) (r : List UInt8) (h : b ≠ 120) : dec (92 :: b :: r) = (b, r) := by
  match r with
  | [] => simp [dec]
  | [x] => simp [dec]
  | x :: y :: r => simp [dec, h]

theorem dec_esc (b : UInt8) (r : List UInt8) : dec (escB b ++ r) = (b, r) := by
  have h1 : ∀ b : UInt8, UInt8.ofNat (16 * (if (hexd (b.toNat / 16)).toNat < 58 then (hexd (b.toNat / 16)).toNat - 48 else (hexd (b.toNat / 16)).toNat - 87) +
      (if (hexd (b.toNat % 16)).toNat < 58 then (hexd (b.toNat % 16)).toNat - 48 else (hexd (b.toNat % 16)).toNat - 87)) = b :=
    each (by decide +kernel)
  unfold escB
  split
  · simp [dec, h1 b]
  · split
    · rename_i h
      exact dec_two b r (by rcases h with rfl | rfl <;> decide)
    · rename_i h
      exact dec_one b r (fun e => h (.inr e))

theorem flat_inj : ∀ a b : List UInt8, a.flatMap escB = b.flatMap escB → a = b := by
  intro a
  induction a with
  | nil =>
    intro b h
    have := flat_len b
    have h2 := this.1
    rw [← h] at h2
    simp at h2
    exact h2.symm
  | cons x t ih =>
    intro b h
    cases b with
    | nil =>
      have := flat_len (x :: t)
      rw [h] at this
      simp at this
    | cons y u =>
      have h2 := congrArg dec h
      simp only [List.flatMap_cons, dec_esc, Prod.mk.injEq] at h2
      obtain ⟨rfl, h3⟩ := h2
      rw [ih u h3]

theorem esc_apart (a b : List UInt8) (h : ¬ ((a = [] ∧ b = [45]) ∨ (a = [45] ∧ b = []))) : esc a = esc b ↔ a = b := by
  refine ⟨fun e => ?_, fun e => by rw [e]⟩
  have e45 : [(45 : UInt8)].flatMap escB = [45] := by decide
  by_cases ha : a = []
  · by_cases hb : b = []
    · rw [ha, hb]
    · have : b = [45] := by
        simp only [esc, ha, if_true, if_neg hb] at e
        exact flat_inj _ _ (by rw [← e, e45])
      exact absurd (.inl ⟨ha, this⟩) h
  · by_cases hb : b = []
    · have : a = [45] := by
        simp only [esc, hb, if_true, if_neg ha] at e
        exact flat_inj _ _ (by rw [e, e45])
      exact absurd (.inr ⟨this, hb⟩) h
    · simp only [esc, if_neg ha, if_neg hb] at e
      exact flat_inj _ _ e

end Go.Proofs.YtkhepehgafijfaaDoor.Ln
