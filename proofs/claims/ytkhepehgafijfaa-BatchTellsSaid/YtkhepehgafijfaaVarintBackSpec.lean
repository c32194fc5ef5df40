/- Varint, in plain Lean: numbers and texts come back. No condition. -/
import Derived.Test.YtkhepehgafijfaaVarintSpec
namespace Go.Proofs.Ytkhepehgafijfaa.Vr

theorem span_put (f : Nat) : ∀ (n i : Nat) (rest : List UInt8), i + f = 9 → n < 2 * 128 ^ f → (0 < i → 0 < n) →
    span i (putF f n ++ rest) = (i + (putF f n).length, 0) := by
  induction f with
  | zero =>
    intro n i rest hi hn h0
    simp at hn
    have e : (UInt8.ofNat n).toNat = n := by simp; omega
    rw [show putF 0 n ++ rest = UInt8.ofNat n :: rest from rfl, span_cons _ _ _ (by omega), e, if_neg (by omega), if_pos (by omega), if_neg (by omega)]
    rfl
  | succ f ih =>
    intro n i rest hi hn h0
    rw [Nat.pow_succ] at hn
    by_cases h : n < 128
    · have e : (UInt8.ofNat n).toNat = n := by simp; omega
      rw [putF_small _ _ h, show [UInt8.ofNat n] ++ rest = UInt8.ofNat n :: rest from rfl, span_cons _ _ _ (by omega), e, if_neg (by omega), if_pos (by omega), if_neg (by omega)]
      rfl
    · have e : (UInt8.ofNat (128 + n % 128)).toNat = 128 + n % 128 := by rw [UInt8.toNat_ofNat']; omega
      rw [putF_big _ _ h, List.cons_append, span_cons _ _ _ (by omega), e, if_neg (by omega), if_neg (by omega), ih (n / 128) (i + 1) rest (by omega) (by omega) (by omega)]
      simp; omega

theorem val_put (f : Nat) : ∀ n, n < 2 * 128 ^ f → val (putF f n) = n := by
  induction f with
  | zero =>
    intro n hn
    simp at hn
    have e : (UInt8.ofNat n).toNat = n := by simp; omega
    simp only [putF, val, e]; omega
  | succ f ih =>
    intro n hn
    rw [Nat.pow_succ] at hn
    by_cases h : n < 128
    · have e : (UInt8.ofNat n).toNat = n := by simp; omega
      rw [putF_small _ _ h]
      simp only [val, e]; omega
    · have e : (UInt8.ofNat (128 + n % 128)).toNat = 128 + n % 128 := by rw [UInt8.toNat_ofNat']; omega
      rw [putF_big _ _ h]
      simp only [val, e, ih (n / 128) (by omega)]; omega

theorem put_val (l : List UInt8) : ∀ i m, i ≤ 9 → span i l = (m, 0) → putF (9 - i) (val (l.take (m - i))) = l.take (m - i) ∧ (0 < i → 0 < val (l.take (m - i))) := by
  induction l with
  | nil => intro i m hi h; rw [span_end _ (by omega)] at h; simp at h
  | cons b t ih =>
    intro i m hi h
    rw [span_cons i b t (by omega)] at h
    have hb := UInt8.toNat_lt b
    split at h
    · simp at h
    rename_i h9
    split at h
    · rename_i hb1
      split at h
      · simp at h
      · rename_i h0
        simp at h
        subst h
        rw [show i + 1 - i = 1 by omega]
        simp only [List.take_succ_cons, List.take_zero, val]
        rw [Nat.mod_eq_of_lt hb1, Nat.mul_zero, Nat.add_zero, putF_small _ _ hb1]
        exact ⟨by rw [UInt8.ofNat_toNat], by omega⟩
    · rename_i hb1
      obtain ⟨h1, h2⟩ := ih (i + 1) m (by omega) h
      obtain ⟨h3, _⟩ := span_ok t (i + 1) m (by omega) h
      rw [show m - i = (m - (i + 1)) + 1 by omega, show 9 - i = (9 - (i + 1)) + 1 by omega]
      simp only [List.take_succ_cons, val]
      generalize hv : val (t.take (m - (i + 1))) = v at h1 h2
      have hv0 := h2 (by omega)
      rw [putF_big _ _ (by omega), show (b.toNat % 128 + 128 * v) % 128 = b.toNat - 128 by omega, show (b.toNat % 128 + 128 * v) / 128 = v by omega, h1, show 128 + (b.toNat - 128) = b.toNat by omega, UInt8.ofNat_toNat]
      exact ⟨rfl, by omega⟩

theorem get_back (ahead behind : List UInt8) (n : Nat) (hn : n < 18446744073709551616) :
    get (ahead ++ (put n ++ behind)) (ahead.length : Nat) = (n, ((ahead.length + (put n).length : Nat) : Int), 0) := by
  have e : 2 * 128 ^ 9 = 18446744073709551616 := rfl
  have hs : span 0 (put n ++ behind) = ((put n).length, 0) := by
    have := span_put 9 n 0 behind (by omega) (by omega) (by omega)
    rw [Nat.zero_add] at this
    exact this
  have hv : val (put n) = n := val_put 9 n (by omega)
  rw [get_pos, List.drop_left, hs]
  simp [hv]

theorem put_back {l : List UInt8} {k : Nat} {to : Int} (h : get l 0 = (k, to, 0)) : ∃ m : Nat, to = (m : Int) ∧ 1 ≤ m ∧ m ≤ l.length ∧ put k = l.take m ∧ k < 18446744073709551616 := by
  obtain ⟨z, m, hz, h1, h2, h3, _, h4, h5, h6⟩ := get_ok h
  obtain rfl : z = 0 := by omega
  rw [List.drop_zero] at h4 h5
  have := (put_val l 0 m (by omega) h4).1
  rw [Nat.sub_zero, Nat.sub_zero, ← h5] at this
  exact ⟨m, by rw [h1, Nat.zero_add], h3, by omega, this, h6⟩

theorem take_back (ahead behind : List UInt8) (hb : behind.length < 18446744073709551616) :
    take (ahead ++ (text behind ++ ahead)) (ahead.length : Nat) (behind.length : Nat) = (behind, ((ahead.length + (text behind).length : Nat) : Int), 0) := by
  have hg := get_back ahead (behind ++ ahead) behind.length hb
  rw [← List.append_assoc (put _), show put behind.length ++ behind = text behind from rfl] at hg
  have hl : (text behind).length = (put behind.length).length + behind.length := by simp [text]
  rw [take_fine hg (by omega) (by simp [hl]; omega)]
  have e1 : (((ahead.length + (put behind.length).length : Nat) : Int)).toNat = ahead.length + (put behind.length).length := by omega
  rw [e1, hl, ← List.drop_drop, List.drop_left]
  have e2 : text behind ++ ahead = put behind.length ++ (behind ++ ahead) := by simp [text]
  rw [e2, List.drop_left, List.take_left]
  simp; omega

end Go.Proofs.Ytkhepehgafijfaa.Vr
