/- Varint, in plain Lean: a number's form, and what is read of bytes. No condition. -/
namespace Go.Proofs.Ytkhepehgafijfaa.Vr

/-- A number's form; f is one less than how many bytes it may take. -/
def putF : Nat → Nat → List UInt8
  | 0, n => [UInt8.ofNat n]
  | f + 1, n => if n < 128 then [UInt8.ofNat n] else UInt8.ofNat (128 + n % 128) :: putF f (n / 128)

def put (n : Nat) : List UInt8 := putF 9 n

theorem putF_small (f n : Nat) (h : n < 128) : putF f n = [UInt8.ofNat n] := by
  cases f with
  | zero => rfl
  | succ f => simp [putF, h]

theorem putF_big (f n : Nat) (h : ¬ n < 128) : putF (f + 1) n = UInt8.ofNat (128 + n % 128) :: putF f (n / 128) := by
  simp [putF, h]

theorem putF_len (f n : Nat) : 1 ≤ (putF f n).length ∧ (putF f n).length ≤ f + 1 := by
  induction f generalizing n with
  | zero => simp [putF]
  | succ f ih =>
    unfold putF
    split
    · simp
    · have := ih (n / 128); simp; omega

theorem put_step (n f a : Nat) (l : List UInt8) (hf : f + l.length = 9) (HA : a < 2 * 128 ^ f) (HP : put n = l ++ putF f a) (h : ¬ a < 128) :
    ∃ f', f' + (l ++ [UInt8.ofNat (128 + a % 128)]).length = 9 ∧ a / 128 < 2 * 128 ^ f' ∧ put n = (l ++ [UInt8.ofNat (128 + a % 128)]) ++ putF f' (a / 128) := by
  cases f with
  | zero => simp at HA; omega
  | succ f =>
    refine ⟨f, by simp; omega, ?_, ?_⟩
    · rw [Nat.pow_succ] at HA; omega
    · rw [HP, putF_big f a h]; simp

/-- How many bytes a form has, or why there is none: i bytes have been read. -/
def span (i : Nat) : List UInt8 → Nat × Nat
  | [] => if i = 10 then (0, 3) else (0, 5)
  | b :: t => if i = 10 then (0, 3) else if i = 9 ∧ 1 < b.toNat then (0, 3) else
      if b.toNat < 128 then (if 0 < i ∧ b.toNat = 0 then (0, 3) else (i + 1, 0)) else span (i + 1) t

/-- The number that bytes of a form say. -/
def val : List UInt8 → Nat
  | [] => 0
  | b :: t => b.toNat % 128 + 128 * val t

def get (l : List UInt8) (at_ : Int) : Nat × Int × Nat :=
  if at_ < 0 then (0, 0, 2) else
    let r := span 0 (l.drop at_.toNat)
    if r.2 = 0 then (val ((l.drop at_.toNat).take r.1), at_ + r.1, 0) else (0, 0, r.2)

theorem drop_get {l : List UInt8} {i : Nat} (h : i < l.length) : l.drop i = l[i] :: l.drop (i + 1) := List.drop_eq_getElem_cons h

theorem span_ten (l : List UInt8) : span 10 l = (0, 3) := by cases l <;> simp [span]
theorem span_end (n : Nat) (h : n ≠ 10) : span n [] = (0, 5) := by simp [span, h]
theorem span_cons (n : Nat) (b : UInt8) (t : List UInt8) (h : n ≠ 10) : span n (b :: t) = if n = 9 ∧ 1 < b.toNat then (0, 3) else
    if b.toNat < 128 then (if 0 < n ∧ b.toNat = 0 then (0, 3) else (n + 1, 0)) else span (n + 1) t := by simp [span, h]

theorem span_ok (l : List UInt8) : ∀ i m, i ≤ 10 → span i l = (m, 0) → i < m ∧ m ≤ 10 ∧ m - i ≤ l.length ∧ val (l.take (m - i)) < 2 * 128 ^ (9 - i) := by
  induction l with
  | nil => intro i m hi h; unfold span at h; split at h <;> simp at h
  | cons b t ih =>
    intro i m hi h
    by_cases h10 : i = 10
    · subst h10; rw [span_ten] at h; simp at h
    rw [span_cons i b t h10] at h
    split at h
    · simp at h
    rename_i h9
    split at h
    · rename_i hb
      split at h
      · simp at h
      · simp at h
        subst h
        refine ⟨by omega, by omega, by simp, ?_⟩
        rw [show i + 1 - i = 1 by omega]
        simp [val]
        have : 1 ≤ 128 ^ (9 - i) := Nat.one_le_pow _ _ (by omega)
        by_cases h' : i = 9
        · subst h'; simp; omega
        · have : 128 ≤ 128 ^ (9 - i) := by
            calc 128 = 128 ^ 1 := rfl
              _ ≤ 128 ^ (9 - i) := Nat.pow_le_pow_right (by omega) (by omega)
          omega
    · rename_i hb
      have hi9 : i ≠ 9 := by intro h'; subst h'; omega
      obtain ⟨h1, h2, h3, h4⟩ := ih (i + 1) m (by omega) h
      refine ⟨by omega, h2, by simp; omega, ?_⟩
      rw [show m - i = (m - (i + 1)) + 1 by omega]
      simp only [List.take_succ_cons, val]
      rw [show 9 - i = (9 - (i + 1)) + 1 by omega, Nat.pow_succ]
      omega

theorem val_split (l : List UInt8) : ∀ j, j ≤ l.length → val l = val (l.take j) + 128 ^ j * val (l.drop j) := by
  induction l with
  | nil => intro j hj; simp at hj; subst hj; simp [val]
  | cons b t ih =>
    intro j hj
    cases j with
    | zero => simp [val]
    | succ j =>
      simp only [List.take_succ_cons, List.drop_succ_cons, val]
      rw [ih j (by simpa using hj), Nat.pow_succ, Nat.mul_add]
      have : 128 * (128 ^ j * val (t.drop j)) = 128 ^ j * 128 * val (t.drop j) := by
        rw [← Nat.mul_assoc, Nat.mul_comm 128]
      omega

/-- Of a form's number each later part, made greater by 128 once more, is within 64 bits. -/
theorem val_room {r : List UInt8} {m : Nat} (h : span 0 r = (m, 0)) (j : Nat) (h1 : 1 ≤ j) (h2 : j ≤ m) : val ((r.take m).drop j) * 128 < 18446744073709551616 := by
  obtain ⟨_, h10, hl, hv⟩ := span_ok r 0 m (by omega) h
  simp only [Nat.sub_zero] at hl hv
  have hs := val_split (r.take m) j (by simp; omega)
  have hp : 128 ≤ 128 ^ j := by
    calc 128 = 128 ^ 1 := rfl
      _ ≤ 128 ^ j := Nat.pow_le_pow_right (by omega) h1
  have : val ((r.take m).drop j) * 128 ≤ 128 ^ j * val ((r.take m).drop j) := by rw [Nat.mul_comm]; exact Nat.mul_le_mul_right _ hp
  have e : 2 * 128 ^ 9 = 18446744073709551616 := rfl
  omega

theorem span_err (l : List UInt8) : ∀ i, (span i l).2 ≠ 0 → (span i l).1 = 0 := by
  induction l with
  | nil => intro i; unfold span; split <;> simp
  | cons b t ih =>
    intro i
    unfold span
    repeat' split
    all_goals first | exact ih _ | simp

theorem val_back (l : List UInt8) (k m j : Nat) (h1 : 1 ≤ j) (h2 : j ≤ m) (h : k + (j - 1) < l.length) :
    val (((l.drop k).take m).drop (j - 1)) = l[k + (j - 1)].toNat % 128 + 128 * val (((l.drop k).take m).drop j) := by
  have hh : j - 1 < ((l.drop k).take m).length := by simp; omega
  rw [drop_get hh, show j - 1 + 1 = j by omega, val]
  simp

theorem val_lt (l : List UInt8) : val l < 128 ^ l.length := by
  induction l with
  | nil => simp [val]
  | cons b t ih => simp only [val, List.length_cons, Nat.pow_succ]; omega

theorem val_snoc (l : List UInt8) (b : UInt8) : val (l ++ [b]) = val l + 128 ^ l.length * (b.toNat % 128) := by
  induction l with
  | nil => simp [val]
  | cons c t ih =>
    simp only [List.cons_append, val, ih, List.length_cons, Nat.pow_succ]
    rw [Nat.mul_add, ← Nat.mul_assoc, Nat.mul_comm 128 (128 ^ t.length)]
    omega

theorem val_next (r : List UInt8) (i : Nat) (h : i < r.length) : val (r.take (i + 1)) = val (r.take i) + 128 ^ i * (r[i].toNat % 128) := by
  rw [List.take_succ_eq_append_getElem h, val_snoc, List.length_take, Nat.min_eq_left (by omega)]

theorem get_pos (l : List UInt8) (k : Nat) : get l k = if (span 0 (l.drop k)).2 = 0 then (val ((l.drop k).take (span 0 (l.drop k)).1), (k : Int) + (span 0 (l.drop k)).1, 0) else (0, 0, (span 0 (l.drop k)).2) := by
  simp [get]; intro h; omega

/-- What the next byte says of what is read. -/
theorem get_cases (l : List UInt8) (k j : Nat) (h : k + j < l.length) (hj : j ≤ 9) (HS : span 0 (l.drop k) = span j ((l.drop k).drop j)) :
    (j = 9 ∧ 1 < l[k + j].toNat → get l k = (0, 0, 3)) ∧
    (¬ (j = 9 ∧ 1 < l[k + j].toNat) → l[k + j].toNat < 128 → 0 < j ∧ l[k + j].toNat = 0 → get l k = (0, 0, 3)) ∧
    (¬ (j = 9 ∧ 1 < l[k + j].toNat) → l[k + j].toNat < 128 → ¬ (0 < j ∧ l[k + j].toNat = 0) → get l k = (val ((l.drop k).take j) + 128 ^ j * l[k + j].toNat, (k : Int) + j + 1, 0)) ∧
    (j ≠ 9 → 128 ≤ l[k + j].toNat → span 0 (l.drop k) = span (j + 1) ((l.drop k).drop (j + 1)) ∧ val ((l.drop k).take (j + 1)) = val ((l.drop k).take j) + 128 ^ j * (l[k + j].toNat - 128)) := by
  have hr : j < (l.drop k).length := by simp; omega
  have hg : (l.drop k)[j] = l[k + j] := by simp
  have hc := span_cons j (l.drop k)[j] ((l.drop k).drop (j + 1)) (by omega)
  have hv := val_next (l.drop k) j hr
  have hb := UInt8.toNat_lt l[k + j]
  rw [hg] at hc hv
  rw [← hg, ← drop_get hr, hg] at hc
  rw [get_pos, HS, hc]
  refine ⟨fun c1 => ?_, fun c1 c2 c3 => ?_, fun c1 c2 c3 => ?_, fun c1 c2 => ?_⟩
  · rw [if_pos c1]; rfl
  · rw [if_neg c1, if_pos c2, if_pos c3]; rfl
  · rw [if_neg c1, if_pos c2, if_neg c3]
    simp only [if_true, hv, Nat.mod_eq_of_lt c2]
    simp; omega
  · rw [if_neg (by omega), if_neg (by omega)]
    refine ⟨rfl, ?_⟩
    rw [hv, show l[k + j].toNat % 128 = l[k + j].toNat - 128 by omega]

theorem val_bound (r : List UInt8) (j : Nat) : val (r.take j) < 128 ^ j := by
  have h := val_lt (r.take j)
  have : (r.take j).length ≤ j := List.length_take_le _ _
  exact Nat.lt_of_lt_of_le h (Nat.pow_le_pow_right (by omega) this)

theorem sum_room (v q j b : Nat) (hq : q = 128 ^ j) (hv : v < q) (hj : j ≤ 9) (hb : j = 9 → b ≤ 1) (h2 : b < 256) : v + q * b < 18446744073709551616 := by
  by_cases h9 : j = 9
  · subst h9
    have : q * b ≤ q * 1 := Nat.mul_le_mul_left _ (hb rfl)
    have e : 128 ^ 9 = 9223372036854775808 := rfl
    omega
  · have h1 : q ≤ 128 ^ 8 := by rw [hq]; exact Nat.pow_le_pow_right (by omega) (by omega)
    have : q * b ≤ q * 255 := Nat.mul_le_mul_left _ (by omega)
    have e : 128 ^ 8 = 72057594037927936 := rfl
    omega
theorem pow_room (j : Nat) (h : j ≤ 8) : 128 ^ j * 128 < 18446744073709551616 := by
  have h1 : 128 ^ j ≤ 128 ^ 8 := Nat.pow_le_pow_right (by omega) h
  have e : 128 ^ 8 = 72057594037927936 := rfl
  omega

/-- What a number is read of. -/
theorem get_ok {l : List UInt8} {x : Int} {n : Nat} {nx : Int} (h : get l x = (n, nx, 0)) :
    ∃ k m : Nat, x = k ∧ nx = ((k + m : Nat) : Int) ∧ k + m ≤ l.length ∧ 1 ≤ m ∧ m ≤ 10 ∧ span 0 (l.drop k) = (m, 0) ∧ n = val ((l.drop k).take m) ∧ n < 18446744073709551616 := by
  by_cases hx : x < 0
  · simp [get, hx] at h
  · obtain ⟨k, rfl⟩ := Int.eq_ofNat_of_zero_le (by omega : 0 ≤ x)
    have hg : get l k = (n, nx, 0) := h
    rw [get_pos] at hg
    split at hg
    · rename_i h0
      simp only [Prod.mk.injEq] at hg
      have hs : span 0 (l.drop k) = ((span 0 (l.drop k)).1, 0) := Prod.ext_iff.2 ⟨rfl, h0⟩
      obtain ⟨a, b, c, d⟩ := span_ok _ 0 _ (by omega) hs
      simp only [Nat.sub_zero, List.length_drop] at c d
      refine ⟨k, (span 0 (l.drop k)).1, rfl, by omega, by omega, a, b, hs, hg.1.symm, ?_⟩
      have e : 2 * 128 ^ 9 = 18446744073709551616 := rfl
      omega
    · simp at hg; omega

theorem get_err {l : List UInt8} {x : Int} (h : (get l x).2.2 ≠ 0) : (get l x).1 = 0 ∧ (get l x).2.1 = 0 := by
  unfold get at *
  split at h
  · rename_i hx; simp [hx]
  · rename_i hx
    simp only [hx, if_false] at h ⊢
    split at h
    · simp at h
    · rename_i h0; simp [h0]

/-- A text whose length stands ahead of it. -/
def take (l : List UInt8) (x most : Int) : List UInt8 × Int × Nat :=
  let g := get l x
  if g.2.2 ≠ 0 then ([], 0, g.2.2)
  else if most < 0 ∨ most < (g.1 : Int) then ([], 0, 6)
  else if (l.length : Int) - g.2.1 < (g.1 : Int) then ([], 0, 5)
  else ((l.drop g.2.1.toNat).take g.1, g.2.1 + g.1, 0)

def text (l : List UInt8) : List UInt8 := put l.length ++ l

theorem take_long {l : List UInt8} {x most : Int} {n : Nat} {nx : Int} (h : get l x = (n, nx, 0)) (hb : most < 0 ∨ most < (n : Int)) : take l x most = ([], 0, 6) := by
  simp only [take, h, ne_eq, not_true, if_false]
  rw [if_pos hb]
theorem take_short {l : List UInt8} {x most : Int} {n : Nat} {nx : Int} (h : get l x = (n, nx, 0)) (hb : ¬ (most < 0 ∨ most < (n : Int))) (hc : (l.length : Int) - nx < n) : take l x most = ([], 0, 5) := by
  simp only [take, h, ne_eq, not_true, if_false]
  rw [if_neg hb, if_pos hc]
theorem take_fine {l : List UInt8} {x most : Int} {n : Nat} {nx : Int} (h : get l x = (n, nx, 0)) (hb : ¬ (most < 0 ∨ most < (n : Int))) (hc : ¬ (l.length : Int) - nx < n) : take l x most = ((l.drop nx.toNat).take n, nx + n, 0) := by
  simp only [take, h, ne_eq, not_true, if_false]
  rw [if_neg hb, if_neg hc]

end Go.Proofs.Ytkhepehgafijfaa.Vr
