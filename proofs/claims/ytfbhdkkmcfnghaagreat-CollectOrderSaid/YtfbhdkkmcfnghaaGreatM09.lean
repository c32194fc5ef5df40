/- ; ; Spans as bytes, in plain Lean. No condition.; Walks of varint.Put and of the reference's Put: each gives the number's form. Condition: the argument is a uint64. -/
import Derived.Test.YtfbhdkkmcfnghaaGreatM08
import Derived.Test.YtfbhdkkmcfnghaaGreatProg
import Derived.Test.YtfbhdkkmcfnghaaGreatM01

section
/- Numbers as digits to a base, in plain Lean. No condition. -/
namespace Go.Proofs.YtfbhdkkmcfnghaaGreat.Oc

/-- The last k digits of a number to the base b, the highest first. -/
def digs (b : Nat) : Nat → Nat → List UInt8
  | 0, _ => []
  | k + 1, n => digs b k (n / b) ++ [UInt8.ofNat (n % b)]

theorem digs_len (b k : Nat) : ∀ n, (digs b k n).length = k := by
  induction k with
  | zero => intro n; rfl
  | succ k ih => intro n; simp [digs, ih]

theorem digs_front (b k : Nat) : ∀ n, digs b (k + 1) n = UInt8.ofNat ((n / b ^ k) % b) :: digs b k n := by
  induction k with
  | zero => intro n; simp [digs]
  | succ k ih =>
    intro n
    rw [digs, ih (n / b), digs, Nat.div_div_eq_div_mul, Nat.pow_succ, Nat.mul_comm b]
    rfl

/-- A row of zeros whose last places are filled from the end on. -/
def part (b k i n : Nat) : List UInt8 := List.replicate (k - i) 0 ++ digs b i n

theorem part_len (b k i n : Nat) (h : i ≤ k) : (part b k i n).length = k := by simp [part, digs_len]; omega
theorem part_zero (b k n : Nat) : part b k 0 n = List.replicate k 0 := by simp [part, digs]
theorem part_full (b k n : Nat) : part b k k n = digs b k n := by simp [part]
theorem part_next (b k i n : Nat) (h : i < k) : (part b k i n).set (k - 1 - i) (UInt8.ofNat ((n / b ^ i) % b)) = part b k (i + 1) n := by
  unfold part
  rw [List.set_append_left _ _ (by simp; omega), digs_front, show k - i = (k - (i + 1)) + 1 by omega, List.replicate_succ', show k - 1 - i = k - (i + 1) by omega]
  simp

/-- The number of digits to the base 256. -/
def num (l : List UInt8) : Nat := l.foldl (fun a b => 256 * a + b.toNat) 0

theorem num_snoc (l : List UInt8) (b : UInt8) : num (l ++ [b]) = 256 * num l + b.toNat := by simp [num]

theorem num_lt (l : List UInt8) : num l < 256 ^ l.length := by
  suffices h : ∀ n (l : List UInt8), l.length = n → num l < 256 ^ n from h _ l rfl
  intro n
  induction n with
  | zero => intro l h; rw [List.eq_nil_of_length_eq_zero h]; simp [num]
  | succ n ih =>
    intro l h
    have hne : l ≠ [] := by intro h0; simp [h0] at h
    rw [← List.dropLast_concat_getLast hne, num_snoc]
    have h1 := ih l.dropLast (by simp [h])
    have h2 := UInt8.toNat_lt (l.getLast hne)
    rw [Nat.pow_succ]; omega

theorem num_digs (k : Nat) : ∀ n, n < 256 ^ k → num (digs 256 k n) = n := by
  induction k with
  | zero => intro n h; simp at h; subst h; rfl
  | succ k ih =>
    intro n h
    rw [Nat.pow_succ] at h
    rw [digs, num_snoc, ih (n / 256) (by omega)]
    have e : (UInt8.ofNat (n % 256)).toNat = n % 256 := by simp
    rw [e]; omega

theorem digs_num (n : Nat) : ∀ l : List UInt8, l.length = n → digs 256 n (num l) = l := by
  induction n with
  | zero => intro l h; rw [List.eq_nil_of_length_eq_zero h]; rfl
  | succ n ih =>
    intro l h
    have hne : l ≠ [] := by intro h0; simp [h0] at h
    have hb := UInt8.toNat_lt (l.getLast hne)
    have h1 := ih l.dropLast (by simp [h])
    have e : num l = 256 * num l.dropLast + (l.getLast hne).toNat := by
      conv => lhs; rw [← List.dropLast_concat_getLast hne, num_snoc]
    have e1 : num l / 256 = num l.dropLast := by omega
    have e2 : num l % 256 = (l.getLast hne).toNat := by omega
    rw [digs, e1, e2, h1, UInt8.ofNat_toNat, List.dropLast_concat_getLast hne]

/-- The number of eight bytes from a place on, or why there is none. -/
def get8 (l : List UInt8) (k : Nat) : Nat × Nat := if l.length < k + 8 then (0, 5) else (num ((l.drop k).take 8), 0)

theorem num_next (l : List UInt8) (k j : Nat) (h : k + j < l.length) : num ((l.drop k).take (j + 1)) = 256 * num ((l.drop k).take j) + l[k + j].toNat := by
  rw [List.take_succ_eq_append_getElem (by simp; omega), num_snoc]
  simp

theorem num_bound (l : List UInt8) (j : Nat) (h : j ≤ 8) : num (l.take j) < 18446744073709551616 := by
  have h1 := num_lt (l.take j)
  have h2 : (l.take j).length ≤ 8 := by simp; omega
  have h3 : 256 ^ (l.take j).length ≤ 256 ^ 8 := Nat.pow_le_pow_right (by omega) h2
  have e : 256 ^ 8 = 18446744073709551616 := rfl
  omega

theorem num_room (l : List UInt8) (j : Nat) (h : j < 8) : 256 * num (l.take j) + 255 < 18446744073709551616 := by
  have h1 := num_lt (l.take j)
  have h2 : (l.take j).length ≤ 7 := by simp; omega
  have h3 : 256 ^ (l.take j).length ≤ 256 ^ 7 := Nat.pow_le_pow_right (by omega) h2
  have e : 256 ^ 7 = 72057594037927936 := rfl
  omega

end Go.Proofs.YtfbhdkkmcfnghaaGreat.Oc
end

section
/- Varint, in plain Lean: a number's form, and what is read of bytes. No condition. -/
namespace Go.Proofs.YtfbhdkkmcfnghaaGreat.Vr

/-- A number's form; f is one less than how many bytes it may take. -/
def putF : Nat → Nat → List UInt8
  | 0, n => [UInt8.ofNat n]
  | f + 1, n => if n < 128 then [UInt8.ofNat n] else UInt8.ofNat (128 + n % 128) :: putF f (n / 128)

def put (n : Nat) : List UInt8 := putF 9 n

theorem putF_small (f n : Nat) (h : n < 128) : putF f n = [UInt8.ofNat n] := by
  cases f with
  | zero => rfl
  | succ f => simp [putF, h]

theorem putF_big (f n : Nat) (h : ¬ n < 128) : putF (f + 1) n = UInt8.ofNat (128 + n % 128) :: putF f (n / 128) := by
  simp [putF, h]

theorem putF_len (f n : Nat) : 1 ≤ (putF f n).length ∧ (putF f n).length ≤ f + 1 := by
  induction f generalizing n with
  | zero => simp [putF]
  | succ f ih =>
    unfold putF
    split
    · simp
    · have := ih (n / 128); simp; omega

theorem put_step (n f a : Nat) (l : List UInt8) (hf : f + l.length = 9) (HA : a < 2 * 128 ^ f) (HP : put n = l ++ putF f a) (h : ¬ a < 128) :
    ∃ f', f' + (l ++ [UInt8.ofNat (128 + a % 128)]).length = 9 ∧ a / 128 < 2 * 128 ^ f' ∧ put n = (l ++ [UInt8.ofNat (128 + a % 128)]) ++ putF f' (a / 128) := by
  cases f with
  | zero => simp at HA; omega
  | succ f =>
    refine ⟨f, by simp; omega, ?_, ?_⟩
    · rw [Nat.pow_succ] at HA; omega
    · rw [HP, putF_big f a h]; simp

/-- How many bytes a form has, or why there is none: i bytes have been read. -/
def span (i : Nat) : List UInt8 → Nat × Nat
  | [] => if i = 10 then (0, 3) else (0, 5)
  | b :: t => if i = 10 then (0, 3) else if i = 9 ∧ 1 < b.toNat then (0, 3) else
      if b.toNat < 128 then (if 0 < i ∧ b.toNat = 0 then (0, 3) else (i + 1, 0)) else span (i + 1) t

/-- The number that bytes of a form say. -/
def val : List UInt8 → Nat
  | [] => 0
  | b :: t => b.toNat % 128 + 128 * val t

def get (l : List UInt8) (at_ : Int) : Nat × Int × Nat :=
  if at_ < 0 then (0, 0, 2) else
    let r := span 0 (l.drop at_.toNat)
    if r.2 = 0 then (val ((l.drop at_.toNat).take r.1), at_ + r.1, 0) else (0, 0, r.2)

theorem drop_get {l : List UInt8} {i : Nat} (h : i < l.length) : l.drop i = l[i] :: l.drop (i + 1) := List.drop_eq_getElem_cons h

theorem span_ten (l : List UInt8) : span 10 l = (0, 3) := by cases l <;> simp [span]
theorem span_end (n : Nat) (h : n ≠ 10) : span n [] = (0, 5) := by simp [span, h]
theorem span_cons (n : Nat) (b : UInt8) (t : List UInt8) (h : n ≠ 10) : span n (b :: t) = if n = 9 ∧ 1 < b.toNat then (0, 3) else
    if b.toNat < 128 then (if 0 < n ∧ b.toNat = 0 then (0, 3) else (n + 1, 0)) else span (n + 1) t := by simp [span, h]

theorem span_ok (l : List UInt8) : ∀ i m, i ≤ 10 → span i l = (m, 0) → i < m ∧ m ≤ 10 ∧ m - i ≤ l.length ∧ val (l.take (m - i)) < 2 * 128 ^ (9 - i) := by
  induction l with
  | nil => intro i m hi h; unfold span at h; split at h <;> simp at h
  | cons b t ih =>
    intro i m hi h
    by_cases h10 : i = 10
    · subst h10; rw [span_ten] at h; simp at h
    rw [span_cons i b t h10] at h
    split at h
    · simp at h
    rename_i h9
    split at h
    · rename_i hb
      split at h
      · simp at h
      · simp at h
        subst h
        refine ⟨by omega, by omega, by simp, ?_⟩
        rw [show i + 1 - i = 1 by omega]
        simp [val]
        have : 1 ≤ 128 ^ (9 - i) := Nat.one_le_pow _ _ (by omega)
        by_cases h' : i = 9
        · subst h'; simp; omega
        · have : 128 ≤ 128 ^ (9 - i) := by
            calc 128 = 128 ^ 1 := rfl
              _ ≤ 128 ^ (9 - i) := Nat.pow_le_pow_right (by omega) (by omega)
          omega
    · rename_i hb
      have hi9 : i ≠ 9 := by intro h'; subst h'; omega
      obtain ⟨h1, h2, h3, h4⟩ := ih (i + 1) m (by omega) h
      refine ⟨by omega, h2, by simp; omega, ?_⟩
      rw [show m - i = (m - (i + 1)) + 1 by omega]
      simp only [List.take_succ_cons, val]
      rw [show 9 - i = (9 - (i + 1)) + 1 by omega, Nat.pow_succ]
      omega

theorem val_split (l : List UInt8) : ∀ j, j ≤ l.length → val l = val (l.take j) + 128 ^ j * val (l.drop j) := by
  induction l with
  | nil => intro j hj; simp at hj; subst hj; simp [val]
  | cons b t ih =>
    intro j hj
    cases j with
    | zero => simp [val]
    | succ j =>
      simp only [List.take_succ_cons, List.drop_succ_cons, val]
      rw [ih j (by simpa using hj), Nat.pow_succ, Nat.mul_add]
      have : 128 * (128 ^ j * val (t.drop j)) = 128 ^ j * 128 * val (t.drop j) := by
        rw [← Nat.mul_assoc, Nat.mul_comm 128]
      omega

/-- Of a form's number each later part, made greater by 128 once more, is within 64 bits. -/
theorem val_room {r : List UInt8} {m : Nat} (h : span 0 r = (m, 0)) (j : Nat) (h1 : 1 ≤ j) (h2 : j ≤ m) : val ((r.take m).drop j) * 128 < 18446744073709551616 := by
  obtain ⟨_, h10, hl, hv⟩ := span_ok r 0 m (by omega) h
  simp only [Nat.sub_zero] at hl hv
  have hs := val_split (r.take m) j (by simp; omega)
  have hp : 128 ≤ 128 ^ j := by
    calc 128 = 128 ^ 1 := rfl
      _ ≤ 128 ^ j := Nat.pow_le_pow_right (by omega) h1
  have : val ((r.take m).drop j) * 128 ≤ 128 ^ j * val ((r.take m).drop j) := by rw [Nat.mul_comm]; exact Nat.mul_le_mul_right _ hp
  have e : 2 * 128 ^ 9 = 18446744073709551616 := rfl
  omega

theorem span_err (l : List UInt8) : ∀ i, (span i l).2 ≠ 0 → (span i l).1 = 0 := by
  induction l with
  | nil => intro i; unfold span; split <;> simp
  | cons b t ih =>
    intro i
    unfold span
    repeat' split
    all_goals first | exact ih _ | simp

theorem val_back (l : List UInt8) (k m j : Nat) (h1 : 1 ≤ j) (h2 : j ≤ m) (h : k + (j - 1) < l.length) :
    val (((l.drop k).take m).drop (j - 1)) = l[k + (j - 1)].toNat % 128 + 128 * val (((l.drop k).take m).drop j) := by
  have hh : j - 1 < ((l.drop k).take m).length := by simp; omega
  rw [drop_get hh, show j - 1 + 1 = j by omega, val]
  simp

theorem val_lt (l : List UInt8) : val l < 128 ^ l.length := by
  induction l with
  | nil => simp [val]
  | cons b t ih => simp only [val, List.length_cons, Nat.pow_succ]; omega

theorem val_snoc (l : List UInt8) (b : UInt8) : val (l ++ [b]) = val l + 128 ^ l.length * (b.toNat % 128) := by
  induction l with
  | nil => simp [val]
  | cons c t ih =>
    simp only [List.cons_append, val, ih, List.length_cons, Nat.pow_succ]
    rw [Nat.mul_add, ← Nat.mul_assoc, Nat.mul_comm 128 (128 ^ t.length)]
    omega

theorem val_next (r : List UInt8) (i : Nat) (h : i < r.length) : val (r.take (i + 1)) = val (r.take i) + 128 ^ i * (r[i].toNat % 128) := by
  rw [List.take_succ_eq_append_getElem h, val_snoc, List.length_take, Nat.min_eq_left (by omega)]

theorem get_pos (l : List UInt8) (k : Nat) : get l k = if (span 0 (l.drop k)).2 = 0 then (val ((l.drop k).take (span 0 (l.drop k)).1), (k : Int) + (span 0 (l.drop k)).1, 0) else (0, 0, (span 0 (l.drop k)).2) := by
  simp [get]; intro h; omega

/-- What the next byte says of what is read. -/
theorem get_cases (l : List UInt8) (k j : Nat) (h : k + j < l.length) (hj : j ≤ 9) (HS : span 0 (l.drop k) = span j ((l.drop k).drop j)) :
    (j = 9 ∧ 1 < l[k + j].toNat → get l k = (0, 0, 3)) ∧
    (¬ (j = 9 ∧ 1 < l[k + j].toNat) → l[k + j].toNat < 128 → 0 < j ∧ l[k + j].toNat = 0 → get l k = (0, 0, 3)) ∧
    (¬ (j = 9 ∧ 1 < l[k + j].toNat) → l[k + j].toNat < 128 → ¬ (0 < j ∧ l[k + j].toNat = 0) → get l k = (val ((l.drop k).take j) + 128 ^ j * l[k + j].toNat, (k : Int) + j + 1, 0)) ∧
    (j ≠ 9 → 128 ≤ l[k + j].toNat → span 0 (l.drop k) = span (j + 1) ((l.drop k).drop (j + 1)) ∧ val ((l.drop k).take (j + 1)) = val ((l.drop k).take j) + 128 ^ j * (l[k + j].toNat - 128)) := by
  have hr : j < (l.drop k).length := by simp; omega
  have hg : (l.drop k)[j] = l[k + j] := by simp
  have hc := span_cons j (l.drop k)[j] ((l.drop k).drop (j + 1)) (by omega)
  have hv := val_next (l.drop k) j hr
  have hb := UInt8.toNat_lt l[k + j]
  rw [hg] at hc hv
  rw [← hg, ← drop_get hr, hg] at hc
  rw [get_pos, HS, hc]
  refine ⟨fun c1 => ?_, fun c1 c2 c3 => ?_, fun c1 c2 c3 => ?_, fun c1 c2 => ?_⟩
  · rw [if_pos c1]; rfl
  · rw [if_neg c1, if_pos c2, if_pos c3]; rfl
  · rw [if_neg c1, if_pos c2, if_neg c3]
    simp only [if_true, hv, Nat.mod_eq_of_lt c2]
    simp; omega
  · rw [if_neg (by omega), if_neg (by omega)]
    refine ⟨rfl, ?_⟩
    rw [hv, show l[k + j].toNat % 128 = l[k + j].toNat - 128 by omega]

theorem val_bound (r : List UInt8) (j : Nat) : val (r.take j) < 128 ^ j := by
  have h := val_lt (r.take j)
  have : (r.take j).length ≤ j := List.length_take_le _ _
  exact Nat.lt_of_lt_of_le h (Nat.pow_le_pow_right (by omega) this)

theorem sum_room (v q j b : Nat) (hq : q = 128 ^ j) (hv : v < q) (hj : j ≤ 9) (hb : j = 9 → b ≤ 1) (h2 : b < 256) : v + q * b < 18446744073709551616 := by
  by_cases h9 : j = 9
  · subst h9
    have : q * b ≤ q * 1 := Nat.mul_le_mul_left _ (hb rfl)
    have e : 128 ^ 9 = 9223372036854775808 := rfl
    omega
  · have h1 : q ≤ 128 ^ 8 := by rw [hq]; exact Nat.pow_le_pow_right (by omega) (by omega)
    have : q * b ≤ q * 255 := Nat.mul_le_mul_left _ (by omega)
    have e : 128 ^ 8 = 72057594037927936 := rfl
    omega
theorem pow_room (j : Nat) (h : j ≤ 8) : 128 ^ j * 128 < 18446744073709551616 := by
  have h1 : 128 ^ j ≤ 128 ^ 8 := Nat.pow_le_pow_right (by omega) h
  have e : 128 ^ 8 = 72057594037927936 := rfl
  omega

/-- What a number is read of. -/
theorem get_ok {l : List UInt8} {x : Int} {n : Nat} {nx : Int} (h : get l x = (n, nx, 0)) :
    ∃ k m : Nat, x = k ∧ nx = ((k + m : Nat) : Int) ∧ k + m ≤ l.length ∧ 1 ≤ m ∧ m ≤ 10 ∧ span 0 (l.drop k) = (m, 0) ∧ n = val ((l.drop k).take m) ∧ n < 18446744073709551616 := by
  by_cases hx : x < 0
  · simp [get, hx] at h
  · obtain ⟨k, rfl⟩ := Int.eq_ofNat_of_zero_le (by omega : 0 ≤ x)
    have hg : get l k = (n, nx, 0) := h
    rw [get_pos] at hg
    split at hg
    · rename_i h0
      simp only [Prod.mk.injEq] at hg
      have hs : span 0 (l.drop k) = ((span 0 (l.drop k)).1, 0) := Prod.ext_iff.2 ⟨rfl, h0⟩
      obtain ⟨a, b, c, d⟩ := span_ok _ 0 _ (by omega) hs
      simp only [Nat.sub_zero, List.length_drop] at c d
      refine ⟨k, (span 0 (l.drop k)).1, rfl, by omega, by omega, a, b, hs, hg.1.symm, ?_⟩
      have e : 2 * 128 ^ 9 = 18446744073709551616 := rfl
      omega
    · simp at hg; omega

theorem get_err {l : List UInt8} {x : Int} (h : (get l x).2.2 ≠ 0) : (get l x).1 = 0 ∧ (get l x).2.1 = 0 := by
  unfold get at *
  split at h
  · rename_i hx; simp [hx]
  · rename_i hx
    simp only [hx, if_false] at h ⊢
    split at h
    · simp at h
    · rename_i h0; simp [h0]

/-- A text whose length stands ahead of it. -/
def take (l : List UInt8) (x most : Int) : List UInt8 × Int × Nat :=
  let g := get l x
  if g.2.2 ≠ 0 then ([], 0, g.2.2)
  else if most < 0 ∨ most < (g.1 : Int) then ([], 0, 6)
  else if (l.length : Int) - g.2.1 < (g.1 : Int) then ([], 0, 5)
  else ((l.drop g.2.1.toNat).take g.1, g.2.1 + g.1, 0)

def text (l : List UInt8) : List UInt8 := put l.length ++ l

theorem take_long {l : List UInt8} {x most : Int} {n : Nat} {nx : Int} (h : get l x = (n, nx, 0)) (hb : most < 0 ∨ most < (n : Int)) : take l x most = ([], 0, 6) := by
  simp only [take, h, ne_eq, not_true, if_false]
  rw [if_pos hb]
theorem take_short {l : List UInt8} {x most : Int} {n : Nat} {nx : Int} (h : get l x = (n, nx, 0)) (hb : ¬ (most < 0 ∨ most < (n : Int))) (hc : (l.length : Int) - nx < n) : take l x most = ([], 0, 5) := by
  simp only [take, h, ne_eq, not_true, if_false]
  rw [if_neg hb, if_pos hc]
theorem take_fine {l : List UInt8} {x most : Int} {n : Nat} {nx : Int} (h : get l x = (n, nx, 0)) (hb : ¬ (most < 0 ∨ most < (n : Int))) (hc : ¬ (l.length : Int) - nx < n) : take l x most = ((l.drop nx.toNat).take n, nx + n, 0) := by
  simp only [take, h, ne_eq, not_true, if_false]
  rw [if_neg hb, if_neg hc]

end Go.Proofs.YtfbhdkkmcfnghaaGreat.Vr
end

section
namespace Go.Proofs.YtfbhdkkmcfnghaaGreat

/-- The bytes of a span that may be. -/
def spanBytes (s : Sp) : List UInt8 :=
  Oc.digs 256 8 s.hi ++ (Oc.digs 256 8 s.lo ++ (Oc.digs 256 8 s.id ++ (Oc.digs 256 8 s.up ++ (Vr.text s.name ++ (Vr.put s.st.toNat ++ (Vr.put s.sq.toNat ++ (Vr.put s.kd.toNat ++ (Vr.put s.sh.toNat ++ (Vr.put s.t0.toNat ++ Vr.put (s.t1 - s.t0).toNat)))))))))

def write (s : Sp) : List UInt8 × Nat := if check s = 0 then (spanBytes s, 0) else ([], check s)

theorem check_zero {s : Sp} (h : check s = 0) : zer s.hi s.lo = false ∧ s.id ≠ 0 ∧ nameOk s.name = true ∧ 0 ≤ s.st ∧ s.st ≤ 599 ∧ 0 ≤ s.sq ∧ s.sq ≤ 63 ∧ 0 ≤ s.kd ∧ s.kd ≤ 64 ∧
    0 ≤ s.t0 ∧ s.t0 ≤ 1099511627776 ∧ s.t0 ≤ s.t1 ∧ s.t1 ≤ 1099511627776 := by
  unfold check at h
  repeat' split at h
  all_goals first | (exfalso; omega; done) | skip
  simp only [wi, Bool.and_eq_false_iff, decide_eq_false_iff_not, not_or, Int.not_le, Int.not_lt] at *
  simp_all

theorem flatMap_next {f : Nat → List UInt8} {L : List Nat} {j : Nat} (h : j < L.length) : (L.take (j + 1)).flatMap f = (L.take j).flatMap f ++ f (L.getD j 0) := by
  rw [List.take_succ_eq_append_getElem h, List.flatMap_append]
  simp [h]
theorem flatMap_len {f : Nat → List UInt8} {c : Nat} (hf : ∀ n, (f n).length ≤ c) (L : List Nat) (j : Nat) : ((L.take j).flatMap f).length ≤ c * L.length := by
  have h1 : ∀ M : List Nat, (M.flatMap f).length ≤ c * M.length := by
    intro M
    induction M with
    | nil => simp
    | cons a t ih => simp only [List.flatMap_cons, List.length_append, List.length_cons, Nat.mul_add]; have := hf a; omega
  exact Nat.le_trans (h1 _) (Nat.mul_le_mul_left _ (by simp; omega))

end Go.Proofs.YtfbhdkkmcfnghaaGreat
end

section
namespace Go.Proofs.YtfbhdkkmcfnghaaGreat
open Go.RowKit

theorem info_u8 : (Tryz.prog.info? 5).map (fun i => (i.zero, i.size, i.bytes)) = some (some (.int .u8 0), 1, 1) := by kernel_rfl

set_option maxHeartbeats 400000 in
set_option maxRecDepth 100000 in
theorem put_any (x : Int) (n : Nat) (hx : x = n) (w : World) (hn : n < 18446744073709551616) :
    Calls Tryz.prog 95 #[.int .u64 x] w fun e w' => e = .returned (.string (bs (Vr.put n))) ∧ Below w.heap.size w w' := by
  subst hx
  have HN : Hid (n < 2 * 128 ^ 9) := Lib.hid (by have e : 2 * 128 ^ 9 = 18446744073709551616 := rfl; omega)
  clear hn
  go_enter Tryz.func95, Tryz.ntmps95
  go_wp2
  go_loopw [0, 3] (fun m v wr => ∃ (f a : Nat) (l : List UInt8), m = .int .u64 a ∧ f + l.length = 9 ∧ Hid (a < 2 * 128 ^ f) ∧ Hid (Vr.put n = l ++ Vr.putF f a) ∧ BRow wr w.heap.size 5 v l ∧ Below w.heap.size w wr)
    (fun m _ _ => (intOf m).toNat)
  case atStart => exact ⟨9, n, [], rfl, rfl, HN, Lib.hid rfl, BRow.nil _ _ _, Below.refl _ _⟩
  case round =>
    obtain ⟨f, a, l, rfl, hf, HA, HP, hown, hnx⟩ := hrel
    have hl : l.length ≤ 9 := by omega
    by_cases h128 : a < 128
    · have hb : (Value.int .u8 (a : Int)) = .int .u8 ((UInt8.ofNat a).toNat : Int) := by simp; omega
      have Hb := Lib.hid hb; clear hb
      go_wp2_with (first
        | (at_builtin; refine wpList_append_byte hown (UInt8.ofNat a) Hb.out rfl (.tmp 14) (.tmp 17) 152 rfl Tryz.underlying152 info_u8 rfl rfl (by omega) hnx.size ?_; intro v' w1 hown1 _ hb1 hs1)
        | (refine wpList_string_row rfl (.tmp 18) 152 9 rfl _ _ _ _ (by assumption) Tryz.underlying152 Tryz.underlying5 Tryz.underlying9 rfl ?_))
      go_ret
      refine ⟨?_, hnx.trans hb1⟩
      show Ending.returned (.string _) = _
      rw [HP.out, Vr.putF_small f a h128]
    · have Hb := Lib.hid (congrArg (Value.int .u8) (bits_or_128 a))
      go_wp2_with (first
        | (at_builtin; refine wpList_append_byte hown _ Hb.out rfl (.tmp 6) (.tmp 10) 152 rfl Tryz.underlying152 info_u8 rfl rfl (by omega) hnx.size ?_; intro v' w1 hown1 _ hb1 hs1))
      obtain ⟨f', h1, h2, h3⟩ := Vr.put_step n f a l hf HA.out HP.out h128
      exact ⟨⟨f', a / 128, _, rfl, h1, Lib.hid h2, Lib.hid h3, hown1, hnx.trans hb1⟩, by simp [intOf]; omega⟩

theorem ofNat_mod (n : Nat) : UInt8.ofNat (n % 256) = UInt8.ofNat n := by
  apply UInt8.toNat_inj.1; simp

set_option maxHeartbeats 400000 in
set_option maxRecDepth 100000 in
theorem refByte_any (x : Int) (n : Nat) (hx : x = n) (w : World) :
    Calls Tryz.prog 75 #[.int .u64 x] w fun e w' => e = .returned (.string (bs [UInt8.ofNat n])) ∧ Below w.heap.size w w' := by
  subst hx
  have hk := fun (w : World) => run_string_one (P := Tryz.prog) w ((n : Int) % 256) (UInt8.ofNat (n % 256)) 152 9 5 5 (by simp) Tryz.underlying152 Tryz.underlying5 Tryz.underlying9
  go_enter Tryz.func75, Tryz.ntmps75
  go_wp2_with fail
  go_ret
  exact ⟨by rw [ofNat_mod]; rfl, (Below.refl _ _).alloc (Nat.le_refl _) _⟩

set_option maxHeartbeats 400000 in
set_option maxRecDepth 100000 in
theorem refPut_any (f : Nat) : ∀ (x : Int) (n : Nat) (w : World), x = n → n < 18446744073709551616 → f ≤ 9 → Hid (n < 2 * 128 ^ f) →
    Calls Tryz.prog 44 #[.int .u64 x] w fun e w' => e = .returned (.string (bs (Vr.putF f n))) ∧ Below w.heap.size w w' := by
  induction f with
  | zero =>
    intro x n w hx h64 hf HN
    subst hx
    have hn := HN.out
    simp at hn
    have hl : n < 128 := by omega
    go_enter Tryz.func44, Tryz.ntmps44
    go_wp2_with (go_at_call 75; refine (refByte_any _ n rfl _).mono ?_; rintro e w1 ⟨rfl, hb⟩)
    go_ret
    exact ⟨rfl, hb⟩
  | succ f ih =>
    intro x n w hx h64 hf HN
    subst hx
    by_cases hl : n < 128
    · go_enter Tryz.func44, Tryz.ntmps44
      go_wp2_with (go_at_call 75; refine (refByte_any _ n rfl _).mono ?_; rintro e w1 ⟨rfl, hb⟩)
      go_ret
      exact ⟨by rw [Vr.putF_small _ _ hl]; rfl, hb⟩
    · have IH := Lib.hid ih; clear ih
      have h1 : Hid (n / 128 < 2 * 128 ^ f) := Lib.hid (by have := HN.out; rw [Nat.pow_succ] at this; omega)
      have hq := (Vr.putF_len f (n / 128)).2
      go_enter Tryz.func44, Tryz.ntmps44
      go_wp2_with fail
      refine (refByte_any _ (128 + n % 128) (by omega) _).mono ?_
      rintro e w1 ⟨rfl, hb⟩
      go_wp2_with fail
      refine (IH.out _ (n / 128) _ (by omega) (by omega) (by omega) h1).mono ?_
      rintro e w2 ⟨rfl, hb2⟩
      go_wp2_with fail
      go_ret
      refine ⟨?_, hb.trans (hb2.mono hb.size)⟩
      show Ending.returned (.string (bs _)) = _
      rw [Vr.putF_big _ _ hl]
      simp
end Go.Proofs.YtfbhdkkmcfnghaaGreat
end
