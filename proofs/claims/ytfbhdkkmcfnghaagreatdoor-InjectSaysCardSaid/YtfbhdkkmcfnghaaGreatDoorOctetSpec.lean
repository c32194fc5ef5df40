/- Numbers as digits to a base, in plain Lean. No condition. -/
namespace Go.Proofs.YtfbhdkkmcfnghaaGreatDoor.Oc

/-- The last k digits of a number to the base b, the highest first. -/
def digs (b : Nat) : Nat → Nat → List UInt8
  | 0, _ => []
  | k + 1, n => digs b k (n / b) ++ [UInt8.ofNat (n % b)]

theorem digs_len (b k : Nat) : ∀ n, (digs b k n).length = k := by
  induction k with
  | zero => intro n; rfl
  | succ k ih => intro n; simp [digs, ih]

theorem digs_front (b k : Nat) : ∀ n, digs b (k + 1) n = UInt8.ofNat ((n / b ^ k) % b) :: digs b k n := by
  induction k with
  | zero => intro n; simp [digs]
  | succ k ih =>
    intro n
    rw [digs, ih (n / b), digs, Nat.div_div_eq_div_mul, Nat.pow_succ, Nat.mul_comm b]
    rfl

/-- A row of zeros whose last places are filled from the end on. -/
def part (b k i n : Nat) : List UInt8 := List.replicate (k - i) 0 ++ digs b i n

theorem part_len (b k i n : Nat) (h : i ≤ k) : (part b k i n).length = k := by simp [part, digs_len]; omega
theorem part_zero (b k n : Nat) : part b k 0 n = List.replicate k 0 := by simp [part, digs]
theorem part_full (b k n : Nat) : part b k k n = digs b k n := by simp [part]
theorem part_next (b k i n : Nat) (h : i < k) : (part b k i n).set (k - 1 - i) (UInt8.ofNat ((n / b ^ i) % b)) = part b k (i + 1) n := by
  unfold part
  rw [List.set_append_left _ _ (by simp; omega), digs_front, show k - i = (k - (i + 1)) + 1 by omega, List.replicate_succ', show k - 1 - i = k - (i + 1) by omega]
  simp

/-- The number of digits to the base 256. -/
def num (l : List UInt8) : Nat := l.foldl (fun a b => 256 * a + b.toNat) 0

theorem num_snoc (l : List UInt8) (b : UInt8) : num (l ++ [b]) = 256 * num l + b.toNat := by simp [num]

theorem num_lt (l : List UInt8) : num l < 256 ^ l.length := by
  suffices h : ∀ n (l : List UInt8), l.length = n → num l < 256 ^ n from h _ l rfl
  intro n
  induction n with
  | zero => intro l h; rw [List.eq_nil_of_length_eq_zero h]; simp [num]
  | succ n ih =>
    intro l h
    have hne : l ≠ [] := by intro h0; simp [h0] at h
    rw [← List.dropLast_concat_getLast hne, num_snoc]
    have h1 := ih l.dropLast (by simp [h])
    have h2 := UInt8.toNat_lt (l.getLast hne)
    rw [Nat.pow_succ]; omega

theorem num_digs (k : Nat) : ∀ n, n < 256 ^ k → num (digs 256 k n) = n := by
  induction k with
  | zero => intro n h; simp at h; subst h; rfl
  | succ k ih =>
    intro n h
    rw [Nat.pow_succ] at h
    rw [digs, num_snoc, ih (n / 256) (by omega)]
    have e : (UInt8.ofNat (n % 256)).toNat = n % 256 := by simp
    rw [e]; omega

theorem digs_num (n : Nat) : ∀ l : List UInt8, l.length = n → digs 256 n (num l) = l := by
  induction n with
  | zero => intro l h; rw [List.eq_nil_of_length_eq_zero h]; rfl
  | succ n ih =>
    intro l h
    have hne : l ≠ [] := by intro h0; simp [h0] at h
    have hb := UInt8.toNat_lt (l.getLast hne)
    have h1 := ih l.dropLast (by simp [h])
    have e : num l = 256 * num l.dropLast + (l.getLast hne).toNat := by
      conv => lhs; rw [← List.dropLast_concat_getLast hne, num_snoc]
    have e1 : num l / 256 = num l.dropLast := by omega
    have e2 : num l % 256 = (l.getLast hne).toNat := by omega
    rw [digs, e1, e2, h1, UInt8.ofNat_toNat, List.dropLast_concat_getLast hne]

/-- The number of eight bytes from a place on, or why there is none. -/
def get8 (l : List UInt8) (k : Nat) : Nat × Nat := if l.length < k + 8 then (0, 5) else (num ((l.drop k).take 8), 0)

theorem num_next (l : List UInt8) (k j : Nat) (h : k + j < l.length) : num ((l.drop k).take (j + 1)) = 256 * num ((l.drop k).take j) + l[k + j].toNat := by
  rw [List.take_succ_eq_append_getElem (by simp; omega), num_snoc]
  simp

theorem num_bound (l : List UInt8) (j : Nat) (h : j ≤ 8) : num (l.take j) < 18446744073709551616 := by
  have h1 := num_lt (l.take j)
  have h2 : (l.take j).length ≤ 8 := by simp; omega
  have h3 : 256 ^ (l.take j).length ≤ 256 ^ 8 := Nat.pow_le_pow_right (by omega) h2
  have e : 256 ^ 8 = 18446744073709551616 := rfl
  omega

theorem num_room (l : List UInt8) (j : Nat) (h : j < 8) : 256 * num (l.take j) + 255 < 18446744073709551616 := by
  have h1 := num_lt (l.take j)
  have h2 : (l.take j).length ≤ 7 := by simp; omega
  have h3 : 256 ^ (l.take j).length ≤ 256 ^ 7 := Nat.pow_le_pow_right (by omega) h2
  have e : 256 ^ 7 = 72057594037927936 := rfl
  omega

end Go.Proofs.YtfbhdkkmcfnghaaGreatDoor.Oc
