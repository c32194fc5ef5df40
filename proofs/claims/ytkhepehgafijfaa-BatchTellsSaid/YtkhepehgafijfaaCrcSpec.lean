/- Sums of bytes, in plain Lean: as the program makes them and as the document says, and that a byte that is another one is told. No condition. -/
namespace Go.Proofs.Ytkhepehgafijfaa.Crc

/-- A bit falls out. -/
def shift (s : Nat) : Nat := if s % 2 = 1 then (s / 2) ^^^ 3988292384 else s / 2
/-- So many bits fall out. -/
def shifts : Nat → Nat → Nat
  | 0, s => s
  | k + 1, s => shift (shifts k s)
def step (s : Nat) (b : UInt8) : Nat := shifts 8 (s ^^^ b.toNat)
/-- The sum, before its bits are turned. -/
def sum (l : List UInt8) : Nat := l.foldl step 4294967295
def of (l : List UInt8) : Nat := 4294967295 - sum l

theorem shift_lt {s : Nat} (h : s < 4294967296) : shift s < 4294967296 := by
  unfold shift
  split
  · exact Nat.xor_lt_two_pow (n := 32) (by omega) (by omega)
  · omega
theorem shifts_lt (k : Nat) {s : Nat} (h : s < 4294967296) : shifts k s < 4294967296 := by
  induction k with
  | zero => exact h
  | succ k ih => exact shift_lt ih
theorem step_lt {s : Nat} (b : UInt8) (h : s < 4294967296) : step s b < 4294967296 :=
  shifts_lt 8 (Nat.xor_lt_two_pow (n := 32) (by omega) (by have := UInt8.toNat_lt b; omega))
theorem fold_lt (l : List UInt8) : ∀ s, s < 4294967296 → l.foldl step s < 4294967296 := by
  induction l with
  | nil => intro s h; exact h
  | cons b t ih => intro s h; exact ih _ (step_lt b h)
theorem sum_lt (l : List UInt8) : sum l < 4294967296 := fold_lt l _ (by omega)
theorem of_lt (l : List UInt8) : of l < 4294967296 := by unfold of; omega
theorem sum_snoc (l : List UInt8) (b : UInt8) : sum (l ++ [b]) = step (sum l) b := by simp [sum]

/-! The document's way: the byte's bits one by one. -/
/-- One bit more of a byte: what has fallen out of the sum is held against it. -/
def rstep (s b i : Nat) : Nat := if s % 2 ≠ b / 2 ^ i % 2 then (s / 2) ^^^ 3988292384 else s / 2
def rsteps (b : Nat) : Nat → Nat → Nat
  | 0, s => s
  | k + 1, s => rstep (rsteps b k s) b k

theorem xor_mod2 (a b : Nat) : (a ^^^ b) % 2 = 1 ↔ a % 2 ≠ b % 2 := by
  have h := Nat.testBit_xor a b 0
  simp only [Nat.testBit_zero] at h
  have ha : a % 2 = 0 ∨ a % 2 = 1 := by omega
  have hb : b % 2 = 0 ∨ b % 2 = 1 := by omega
  have hx : (a ^^^ b) % 2 = 0 ∨ (a ^^^ b) % 2 = 1 := by omega
  rcases ha with ha | ha <;> rcases hb with hb | hb <;> rcases hx with hx | hx <;> simp_all
theorem xor_div2 (a b : Nat) : (a ^^^ b) / 2 = (a / 2) ^^^ (b / 2) := by
  apply Nat.eq_of_testBit_eq
  intro i
  simp [Nat.testBit_div_two, Nat.testBit_xor]
theorem rsteps_same (b : Nat) (k s : Nat) : shifts k (s ^^^ b) = rsteps b k s ^^^ (b / 2 ^ k) := by
  induction k with
  | zero => simp [shifts, rsteps]
  | succ k ih =>
    simp only [shifts, rsteps]
    rw [ih]
    have e : b / 2 ^ (k + 1) = b / 2 ^ k / 2 := by rw [Nat.pow_succ, Nat.div_div_eq_div_mul]
    unfold shift rstep
    by_cases h : rsteps b k s % 2 = b / 2 ^ k % 2
    · rw [if_neg (by rw [xor_mod2]; simpa using h), if_neg (by simpa using h), xor_div2, e]
    · rw [if_pos (by rw [xor_mod2]; exact h), if_pos h, xor_div2, e, Nat.xor_assoc, Nat.xor_comm (b / 2 ^ k / 2), ← Nat.xor_assoc]
theorem rsteps_byte (b : UInt8) (s : Nat) : rsteps b.toNat 8 s = step s b := by
  have h := rsteps_same b.toNat 8 s
  have hb := UInt8.toNat_lt b
  rw [show b.toNat / 2 ^ 8 = 0 by omega, Nat.xor_zero] at h
  exact h.symm
theorem rsteps_lt (b k : Nat) {s : Nat} (h : s < 4294967296) : rsteps b k s < 4294967296 := by
  induction k with
  | zero => exact h
  | succ k ih =>
    simp only [rsteps, rstep]
    split
    · exact Nat.xor_lt_two_pow (n := 32) (by omega) (by omega)
    · omega

/-! A byte that is another one is told. -/
theorem shift_inj {a b : Nat} (ha : a < 4294967296) (hb : b < 4294967296) (h : shift a = shift b) : a = b := by
  have hp : ∀ x, x < 2147483648 → (x ^^^ 3988292384) / 2147483648 = 1 := by
    intro x hx
    have e : (x ^^^ 3988292384) / 2 ^ 31 = x / 2 ^ 31 ^^^ 3988292384 / 2 ^ 31 := by
      apply Nat.eq_of_testBit_eq
      intro i
      rw [Nat.testBit_div_two_pow, Nat.testBit_xor, Nat.testBit_xor, Nat.testBit_div_two_pow, Nat.testBit_div_two_pow]
    rw [show (2147483648 : Nat) = 2 ^ 31 from rfl, e]
    rw [show x / 2 ^ 31 = 0 by omega]
    decide
  have hx : ∀ x y : Nat, x ^^^ 3988292384 = y ^^^ 3988292384 → x = y := fun x y e => by
    have := congrArg (· ^^^ 3988292384) e
    simpa [Nat.xor_assoc] using this
  unfold shift at h
  by_cases h1 : a % 2 = 1
  · by_cases h2 : b % 2 = 1
    · rw [if_pos h1, if_pos h2] at h
      have := hx _ _ h
      omega
    · rw [if_pos h1, if_neg h2] at h
      have := hp (a / 2) (by omega)
      rw [h] at this
      omega
  · by_cases h2 : b % 2 = 1
    · rw [if_neg h1, if_pos h2] at h
      have := hp (b / 2) (by omega)
      rw [← h] at this
      omega
    · rw [if_neg h1, if_neg h2] at h
      omega
theorem shifts_inj (k : Nat) {a b : Nat} (ha : a < 4294967296) (hb : b < 4294967296) (h : shifts k a = shifts k b) : a = b := by
  induction k with
  | zero => exact h
  | succ k ih => exact ih (shift_inj (shifts_lt k ha) (shifts_lt k hb) h)
theorem step_inj_sum {a b : Nat} (c : UInt8) (ha : a < 4294967296) (hb : b < 4294967296) (h : step a c = step b c) : a = b := by
  have hc := UInt8.toNat_lt c
  have := shifts_inj 8 (Nat.xor_lt_two_pow (n := 32) (by omega) (by omega)) (Nat.xor_lt_two_pow (n := 32) (by omega) (by omega)) h
  have e := congrArg (· ^^^ c.toNat) this
  simpa [Nat.xor_assoc] using e
theorem step_inj_byte {a : Nat} {c d : UInt8} (ha : a < 4294967296) (h : step a c = step a d) : c = d := by
  have hc := UInt8.toNat_lt c
  have hd := UInt8.toNat_lt d
  have := shifts_inj 8 (Nat.xor_lt_two_pow (n := 32) (by omega) (by omega)) (Nat.xor_lt_two_pow (n := 32) (by omega) (by omega)) h
  have e := congrArg (a ^^^ ·) this
  simp only [← Nat.xor_assoc, Nat.xor_self, Nat.zero_xor] at e
  exact UInt8.toNat_inj.1 e
theorem fold_inj (l : List UInt8) : ∀ a b, a < 4294967296 → b < 4294967296 → l.foldl step a = l.foldl step b → a = b := by
  induction l with
  | nil => intro a b _ _ h; exact h
  | cons c t ih => intro a b ha hb h; exact step_inj_sum c ha hb (ih _ _ (step_lt c ha) (step_lt c hb) h)
/-- Texts that part at one byte have other sums. -/
theorem of_apart (p q : List UInt8) (c d : UInt8) (h : c ≠ d) : of (p ++ c :: q) ≠ of (p ++ d :: q) := by
  intro e
  have h1 := sum_lt (p ++ c :: q)
  have h2 := sum_lt (p ++ d :: q)
  have e1 : sum (p ++ c :: q) = sum (p ++ d :: q) := by unfold of at e; omega
  simp only [sum, List.foldl_append, List.foldl_cons] at e1
  have hp := fold_lt p 4294967295 (by omega)
  exact h (step_inj_byte hp (fold_inj q _ _ (step_lt c hp) (step_lt d hp) e1))

end Go.Proofs.Ytkhepehgafijfaa.Crc
