/- Varint, in plain Lean: numbers and texts come back. No condition.; What the program and the document read of bytes is one, and what was written comes back: in plain Lean. No condition but that a text is no longer than an int can say.; What was written comes back, in plain Lean. Condition: texts no longer than an int can say. -/
import Derived.Test.YtfbhdkkmcfnghaaGreatM09
import Derived.Test.YtfbhdkkmcfnghaaGreatM12
import Derived.Test.YtfbhdkkmcfnghaaGreatM13

section
namespace Go.Proofs.YtfbhdkkmcfnghaaGreat.Vr

theorem span_put (f : Nat) : ∀ (n i : Nat) (rest : List UInt8), i + f = 9 → n < 2 * 128 ^ f → (0 < i → 0 < n) →
    span i (putF f n ++ rest) = (i + (putF f n).length, 0) := by
  induction f with
  | zero =>
    intro n i rest hi hn h0
    simp at hn
    have e : (UInt8.ofNat n).toNat = n := by simp; omega
    rw [show putF 0 n ++ rest = UInt8.ofNat n :: rest from rfl, span_cons _ _ _ (by omega), e, if_neg (by omega), if_pos (by omega), if_neg (by omega)]
    rfl
  | succ f ih =>
    intro n i rest hi hn h0
    rw [Nat.pow_succ] at hn
    by_cases h : n < 128
    · have e : (UInt8.ofNat n).toNat = n := by simp; omega
      rw [putF_small _ _ h, show [UInt8.ofNat n] ++ rest = UInt8.ofNat n :: rest from rfl, span_cons _ _ _ (by omega), e, if_neg (by omega), if_pos (by omega), if_neg (by omega)]
      rfl
    · have e : (UInt8.ofNat (128 + n % 128)).toNat = 128 + n % 128 := by rw [UInt8.toNat_ofNat']; omega
      rw [putF_big _ _ h, List.cons_append, span_cons _ _ _ (by omega), e, if_neg (by omega), if_neg (by omega), ih (n / 128) (i + 1) rest (by omega) (by omega) (by omega)]
      simp; omega

theorem val_put (f : Nat) : ∀ n, n < 2 * 128 ^ f → val (putF f n) = n := by
  induction f with
  | zero =>
    intro n hn
    simp at hn
    have e : (UInt8.ofNat n).toNat = n := by simp; omega
    simp only [putF, val, e]; omega
  | succ f ih =>
    intro n hn
    rw [Nat.pow_succ] at hn
    by_cases h : n < 128
    · have e : (UInt8.ofNat n).toNat = n := by simp; omega
      rw [putF_small _ _ h]
      simp only [val, e]; omega
    · have e : (UInt8.ofNat (128 + n % 128)).toNat = 128 + n % 128 := by rw [UInt8.toNat_ofNat']; omega
      rw [putF_big _ _ h]
      simp only [val, e, ih (n / 128) (by omega)]; omega

theorem put_val (l : List UInt8) : ∀ i m, i ≤ 9 → span i l = (m, 0) → putF (9 - i) (val (l.take (m - i))) = l.take (m - i) ∧ (0 < i → 0 < val (l.take (m - i))) := by
  induction l with
  | nil => intro i m hi h; rw [span_end _ (by omega)] at h; simp at h
  | cons b t ih =>
    intro i m hi h
    rw [span_cons i b t (by omega)] at h
    have hb := UInt8.toNat_lt b
    split at h
    · simp at h
    rename_i h9
    split at h
    · rename_i hb1
      split at h
      · simp at h
      · rename_i h0
        simp at h
        subst h
        rw [show i + 1 - i = 1 by omega]
        simp only [List.take_succ_cons, List.take_zero, val]
        rw [Nat.mod_eq_of_lt hb1, Nat.mul_zero, Nat.add_zero, putF_small _ _ hb1]
        exact ⟨by rw [UInt8.ofNat_toNat], by omega⟩
    · rename_i hb1
      obtain ⟨h1, h2⟩ := ih (i + 1) m (by omega) h
      obtain ⟨h3, _⟩ := span_ok t (i + 1) m (by omega) h
      rw [show m - i = (m - (i + 1)) + 1 by omega, show 9 - i = (9 - (i + 1)) + 1 by omega]
      simp only [List.take_succ_cons, val]
      generalize hv : val (t.take (m - (i + 1))) = v at h1 h2
      have hv0 := h2 (by omega)
      rw [putF_big _ _ (by omega), show (b.toNat % 128 + 128 * v) % 128 = b.toNat - 128 by omega, show (b.toNat % 128 + 128 * v) / 128 = v by omega, h1, show 128 + (b.toNat - 128) = b.toNat by omega, UInt8.ofNat_toNat]
      exact ⟨rfl, by omega⟩

theorem get_back (ahead behind : List UInt8) (n : Nat) (hn : n < 18446744073709551616) :
    get (ahead ++ (put n ++ behind)) (ahead.length : Nat) = (n, ((ahead.length + (put n).length : Nat) : Int), 0) := by
  have e : 2 * 128 ^ 9 = 18446744073709551616 := rfl
  have hs : span 0 (put n ++ behind) = ((put n).length, 0) := by
    have := span_put 9 n 0 behind (by omega) (by omega) (by omega)
    rw [Nat.zero_add] at this
    exact this
  have hv : val (put n) = n := val_put 9 n (by omega)
  rw [get_pos, List.drop_left, hs]
  simp [hv]

theorem put_back {l : List UInt8} {k : Nat} {tx : Int} (h : get l 0 = (k, tx, 0)) : ∃ m : Nat, tx = (m : Int) ∧ 1 ≤ m ∧ m ≤ l.length ∧ put k = l.take m ∧ k < 18446744073709551616 := by
  obtain ⟨z, m, hz, h1, h2, h3, _, h4, h5, h6⟩ := get_ok h
  obtain rfl : z = 0 := by omega
  rw [List.drop_zero] at h4 h5
  have := (put_val l 0 m (by omega) h4).1
  rw [Nat.sub_zero, Nat.sub_zero, ← h5] at this
  exact ⟨m, by rw [h1, Nat.zero_add], h3, by omega, this, h6⟩

theorem take_back (ahead behind : List UInt8) (hb : behind.length < 18446744073709551616) :
    take (ahead ++ (text behind ++ ahead)) (ahead.length : Nat) (behind.length : Nat) = (behind, ((ahead.length + (text behind).length : Nat) : Int), 0) := by
  have hg := get_back ahead (behind ++ ahead) behind.length hb
  rw [← List.append_assoc (put _), show put behind.length ++ behind = text behind from rfl] at hg
  have hl : (text behind).length = (put behind.length).length + behind.length := by simp [text]
  rw [take_fine hg (by omega) (by simp [hl]; omega)]
  have e1 : (((ahead.length + (put behind.length).length : Nat) : Int)).toNat = ahead.length + (put behind.length).length := by omega
  rw [e1, hl, ← List.drop_drop, List.drop_left]
  have e2 : text behind ++ ahead = put behind.length ++ (behind ++ ahead) := by simp [text]
  rw [e2, List.drop_left, List.take_left]
  simp; omega

end Go.Proofs.YtfbhdkkmcfnghaaGreat.Vr
end

section
namespace Go.Proofs.YtfbhdkkmcfnghaaGreat
open Go.RowKit

theorem rdFixed_bad {l : List UInt8} {a : Int} {b : Nat} (h : b ≠ 0) : rdFixed l a b = (0, a, b) := by simp [rdFixed, h]
theorem rdNum_bad {l : List UInt8} {a : Int} {b : Nat} (h : b ≠ 0) : rdNum l a b = (0, a, b) := by simp [rdNum, h]
theorem rdText_bad {l : List UInt8} {a : Int} {b : Nat} (h : b ≠ 0) : rdText l a b = ([], a, b) := by simp [rdText, h]
theorem rdFlag_bad {l : List UInt8} {a : Int} {b : Nat} (h : b ≠ 0) : rdFlag l a b = (false, a, b) := by simp [rdFlag, h]

/-- A number read without fault, and one that is not. -/
theorem rdNum_good {l : List UInt8} {a : Int} (h : (num1 l a).2.2 = 0) : rdNum l a 0 = num1 l a := by
  unfold num1 at *
  unfold rdNum
  rw [if_pos rfl]
  split at h
  · rename_i h0; exact absurd h h0
  · rename_i h0
    split at h
    · simp at h
    · rename_i h1
      rw [if_neg h0, if_neg h1, if_neg (by omega), Nat.min_eq_left (by omega)]
      have : (Vr.get l a).2.2 = 0 := by omega
      rw [this]
theorem rdNum_fault {l : List UInt8} {a : Int} (h : (num1 l a).2.2 ≠ 0) : (rdNum l a 0).2.2 = (num1 l a).2.2 := by
  unfold num1 at *
  unfold rdNum
  rw [if_pos rfl]
  split at h
  · rename_i h0
    rw [if_pos h0]
    simp only
    rw [if_neg (by omega)]
  · rename_i h0
    have h0' : (Vr.get l a).2.2 = 0 := by omega
    split at h
    · rename_i h1; rw [if_neg h0, if_pos h1]; simp only; rw [if_pos ⟨h0', h1⟩]
    · simp at h

theorem run_bad1 {l : List UInt8} {k : Int} {v1 : Nat} {a1 : Int} {b : Nat} (hb : b ≠ 0) (h1 : rdFixed l k 0 = (v1, a1, b)) : (readRun l k).2.2 = b := by
  simp only [readRun, h1, rdFixed_bad hb, rdFlag_bad hb, rdNum_bad hb, rdText_bad hb]
  simp [hb]
theorem run_bad2 {l : List UInt8} {k : Int} {v1 : Nat} {a1 : Int} {v2 : Nat} {a2 : Int} {b : Nat} (hb : b ≠ 0) (h1 : rdFixed l k 0 = (v1, a1, 0)) (h2 : rdFixed l a1 0 = (v2, a2, b)) : (readRun l k).2.2 = b := by
  simp only [readRun, h1, h2, rdFixed_bad hb, rdFlag_bad hb, rdNum_bad hb, rdText_bad hb]
  simp [hb]
theorem run_bad3 {l : List UInt8} {k : Int} {v1 : Nat} {a1 : Int} {v2 : Nat} {a2 : Int} {v3 : Nat} {a3 : Int} {b : Nat} (hb : b ≠ 0) (h1 : rdFixed l k 0 = (v1, a1, 0)) (h2 : rdFixed l a1 0 = (v2, a2, 0)) (h3 : rdFixed l a2 0 = (v3, a3, b)) : (readRun l k).2.2 = b := by
  simp only [readRun, h1, h2, h3, rdFixed_bad hb, rdFlag_bad hb, rdNum_bad hb, rdText_bad hb]
  simp [hb]
theorem run_bad4 {l : List UInt8} {k : Int} {v1 : Nat} {a1 : Int} {v2 : Nat} {a2 : Int} {v3 : Nat} {a3 : Int} {v4 : Nat} {a4 : Int} {b : Nat} (hb : b ≠ 0) (h1 : rdFixed l k 0 = (v1, a1, 0)) (h2 : rdFixed l a1 0 = (v2, a2, 0)) (h3 : rdFixed l a2 0 = (v3, a3, 0)) (h4 : rdFixed l a3 0 = (v4, a4, b)) : (readRun l k).2.2 = b := by
  simp only [readRun, h1, h2, h3, h4, rdFlag_bad hb, rdNum_bad hb, rdText_bad hb]
  simp [hb]
theorem run_bad5 {l : List UInt8} {k : Int} {v1 : Nat} {a1 : Int} {v2 : Nat} {a2 : Int} {v3 : Nat} {a3 : Int} {v4 : Nat} {a4 : Int} {v5 : List UInt8} {a5 : Int} {b : Nat} (hb : b ≠ 0) (h1 : rdFixed l k 0 = (v1, a1, 0)) (h2 : rdFixed l a1 0 = (v2, a2, 0)) (h3 : rdFixed l a2 0 = (v3, a3, 0)) (h4 : rdFixed l a3 0 = (v4, a4, 0)) (h5 : rdText l a4 0 = (v5, a5, b)) : (readRun l k).2.2 = b := by
  simp only [readRun, h1, h2, h3, h4, h5, rdFlag_bad hb, rdNum_bad hb]
  simp [hb]
theorem run_bad6 {l : List UInt8} {k : Int} {v1 : Nat} {a1 : Int} {v2 : Nat} {a2 : Int} {v3 : Nat} {a3 : Int} {v4 : Nat} {a4 : Int} {v5 : List UInt8} {a5 : Int} {v6 : Nat} {a6 : Int} {b : Nat} (hb : b ≠ 0) (h1 : rdFixed l k 0 = (v1, a1, 0)) (h2 : rdFixed l a1 0 = (v2, a2, 0)) (h3 : rdFixed l a2 0 = (v3, a3, 0)) (h4 : rdFixed l a3 0 = (v4, a4, 0)) (h5 : rdText l a4 0 = (v5, a5, 0)) (h6 : rdNum l a5 0 = (v6, a6, b)) : (readRun l k).2.2 = b := by
  simp only [readRun, h1, h2, h3, h4, h5, h6, rdFlag_bad hb, rdNum_bad hb]
  simp [hb]
theorem run_bad7 {l : List UInt8} {k : Int} {v1 : Nat} {a1 : Int} {v2 : Nat} {a2 : Int} {v3 : Nat} {a3 : Int} {v4 : Nat} {a4 : Int} {v5 : List UInt8} {a5 : Int} {v6 : Nat} {a6 : Int} {v7 : Nat} {a7 : Int} {b : Nat} (hb : b ≠ 0) (h1 : rdFixed l k 0 = (v1, a1, 0)) (h2 : rdFixed l a1 0 = (v2, a2, 0)) (h3 : rdFixed l a2 0 = (v3, a3, 0)) (h4 : rdFixed l a3 0 = (v4, a4, 0)) (h5 : rdText l a4 0 = (v5, a5, 0)) (h6 : rdNum l a5 0 = (v6, a6, 0)) (h7 : rdNum l a6 0 = (v7, a7, b)) : (readRun l k).2.2 = b := by
  simp only [readRun, h1, h2, h3, h4, h5, h6, h7, rdFlag_bad hb, rdNum_bad hb]
  simp [hb]
theorem run_bad8 {l : List UInt8} {k : Int} {v1 : Nat} {a1 : Int} {v2 : Nat} {a2 : Int} {v3 : Nat} {a3 : Int} {v4 : Nat} {a4 : Int} {v5 : List UInt8} {a5 : Int} {v6 : Nat} {a6 : Int} {v7 : Nat} {a7 : Int} {v8 : Nat} {a8 : Int} {b : Nat} (hb : b ≠ 0) (h1 : rdFixed l k 0 = (v1, a1, 0)) (h2 : rdFixed l a1 0 = (v2, a2, 0)) (h3 : rdFixed l a2 0 = (v3, a3, 0)) (h4 : rdFixed l a3 0 = (v4, a4, 0)) (h5 : rdText l a4 0 = (v5, a5, 0)) (h6 : rdNum l a5 0 = (v6, a6, 0)) (h7 : rdNum l a6 0 = (v7, a7, 0)) (h8 : rdNum l a7 0 = (v8, a8, b)) : (readRun l k).2.2 = b := by
  simp only [readRun, h1, h2, h3, h4, h5, h6, h7, h8, rdFlag_bad hb, rdNum_bad hb]
  simp [hb]
theorem run_bad9 {l : List UInt8} {k : Int} {v1 : Nat} {a1 : Int} {v2 : Nat} {a2 : Int} {v3 : Nat} {a3 : Int} {v4 : Nat} {a4 : Int} {v5 : List UInt8} {a5 : Int} {v6 : Nat} {a6 : Int} {v7 : Nat} {a7 : Int} {v8 : Nat} {a8 : Int} {v9 : Bool} {a9 : Int} {b : Nat} (hb : b ≠ 0) (h1 : rdFixed l k 0 = (v1, a1, 0)) (h2 : rdFixed l a1 0 = (v2, a2, 0)) (h3 : rdFixed l a2 0 = (v3, a3, 0)) (h4 : rdFixed l a3 0 = (v4, a4, 0)) (h5 : rdText l a4 0 = (v5, a5, 0)) (h6 : rdNum l a5 0 = (v6, a6, 0)) (h7 : rdNum l a6 0 = (v7, a7, 0)) (h8 : rdNum l a7 0 = (v8, a8, 0)) (h9 : rdFlag l a8 0 = (v9, a9, b)) : (readRun l k).2.2 = b := by
  simp only [readRun, h1, h2, h3, h4, h5, h6, h7, h8, h9, rdNum_bad hb]
  simp [hb]
theorem run_bad10 {l : List UInt8} {k : Int} {v1 : Nat} {a1 : Int} {v2 : Nat} {a2 : Int} {v3 : Nat} {a3 : Int} {v4 : Nat} {a4 : Int} {v5 : List UInt8} {a5 : Int} {v6 : Nat} {a6 : Int} {v7 : Nat} {a7 : Int} {v8 : Nat} {a8 : Int} {v9 : Bool} {a9 : Int} {v10 : Nat} {a10 : Int} {b : Nat} (hb : b ≠ 0) (h1 : rdFixed l k 0 = (v1, a1, 0)) (h2 : rdFixed l a1 0 = (v2, a2, 0)) (h3 : rdFixed l a2 0 = (v3, a3, 0)) (h4 : rdFixed l a3 0 = (v4, a4, 0)) (h5 : rdText l a4 0 = (v5, a5, 0)) (h6 : rdNum l a5 0 = (v6, a6, 0)) (h7 : rdNum l a6 0 = (v7, a7, 0)) (h8 : rdNum l a7 0 = (v8, a8, 0)) (h9 : rdFlag l a8 0 = (v9, a9, 0)) (h10 : rdNum l a9 0 = (v10, a10, b)) : (readRun l k).2.2 = b := by
  simp only [readRun, h1, h2, h3, h4, h5, h6, h7, h8, h9, h10, rdNum_bad hb]
  simp [hb]
theorem run_bad11 {l : List UInt8} {k : Int} {v1 : Nat} {a1 : Int} {v2 : Nat} {a2 : Int} {v3 : Nat} {a3 : Int} {v4 : Nat} {a4 : Int} {v5 : List UInt8} {a5 : Int} {v6 : Nat} {a6 : Int} {v7 : Nat} {a7 : Int} {v8 : Nat} {a8 : Int} {v9 : Bool} {a9 : Int} {v10 : Nat} {a10 : Int} {v11 : Nat} {a11 : Int} {b : Nat} (hb : b ≠ 0) (h1 : rdFixed l k 0 = (v1, a1, 0)) (h2 : rdFixed l a1 0 = (v2, a2, 0)) (h3 : rdFixed l a2 0 = (v3, a3, 0)) (h4 : rdFixed l a3 0 = (v4, a4, 0)) (h5 : rdText l a4 0 = (v5, a5, 0)) (h6 : rdNum l a5 0 = (v6, a6, 0)) (h7 : rdNum l a6 0 = (v7, a7, 0)) (h8 : rdNum l a7 0 = (v8, a8, 0)) (h9 : rdFlag l a8 0 = (v9, a9, 0)) (h10 : rdNum l a9 0 = (v10, a10, 0)) (h11 : rdNum l a10 0 = (v11, a11, b)) : (readRun l k).2.2 = b := by
  simp only [readRun, h1, h2, h3, h4, h5, h6, h7, h8, h9, h10, h11]
  simp [hb]
theorem run_good {l : List UInt8} {k : Int} {v1 : Nat} {a1 : Int} {v2 : Nat} {a2 : Int} {v3 : Nat} {a3 : Int} {v4 : Nat} {a4 : Int} {v5 : List UInt8} {a5 : Int} {v6 : Nat} {a6 : Int} {v7 : Nat} {a7 : Int} {v8 : Nat} {a8 : Int} {v9 : Bool} {a9 : Int} {v10 : Nat} {a10 : Int} {v11 : Nat} {a11 : Int} (h1 : rdFixed l k 0 = (v1, a1, 0)) (h2 : rdFixed l a1 0 = (v2, a2, 0)) (h3 : rdFixed l a2 0 = (v3, a3, 0)) (h4 : rdFixed l a3 0 = (v4, a4, 0)) (h5 : rdText l a4 0 = (v5, a5, 0)) (h6 : rdNum l a5 0 = (v6, a6, 0)) (h7 : rdNum l a6 0 = (v7, a7, 0)) (h8 : rdNum l a7 0 = (v8, a8, 0)) (h9 : rdFlag l a8 0 = (v9, a9, 0)) (h10 : rdNum l a9 0 = (v10, a10, 0)) (h11 : rdNum l a10 0 = (v11, a11, 0)) : readRun l k = (⟨v1, v2, v3, v4, v5, v6, v7, v8, v9, v10, (v10 : Int) + v11⟩, a11, check ⟨v1, v2, v3, v4, v5, v6, v7, v8, v9, v10, (v10 : Int) + v11⟩) := by
  simp only [readRun, h1, h2, h3, h4, h5, h6, h7, h8, h9, h10, h11, if_true]

theorem rdFixed_good {l : List UInt8} {k : Nat} (hl : l.length ≤ 9223372036854775807) (h : ¬ l.length < k + 8) : rdFixed l (k : Int) 0 = (Oc.num ((l.drop k).take 8), ((k + 8 : Nat) : Int), 0) := by
  have ew : wrap64 ((k : Int) + 8) = ((k + 8 : Nat) : Int) := by unfold wrap64; omega
  simp [rdFixed, Oc.get8, h, ew]
theorem rdFixed_short {l : List UInt8} {k : Nat} (h : l.length < k + 8) : ∃ a, rdFixed l (k : Int) 0 = (0, a, 5) := by
  simp [rdFixed, Oc.get8, h]
theorem span_out {l : List UInt8} {k : Nat} {b : Nat} (hb : b ≠ 0) (h : (readRun l k).2.2 = b) : readSpan l k = (zeroSp, 0, b) := by
  simp only [readSpan, h]
  rw [if_neg (by omega), if_neg hb]
  rfl

theorem read_same (l : List UInt8) (x : Int) (hl : l.length ≤ 9223372036854775807) : readSpan l x = readRef l x := by
  by_cases hx : x < 0
  · simp only [readSpan, readRef]; rw [if_pos hx, if_pos hx]; rfl
  obtain ⟨k, rfl⟩ := Int.eq_ofNat_of_zero_le (by omega : 0 ≤ x)
  by_cases h32 : l.length < k + 32
  · have hr : readRef l k = (zeroSp, 0, 5) := by simp only [readRef]; rw [if_neg hx, if_pos (by simpa using h32)]
    rw [hr]
    by_cases h8 : l.length < k + 8
    · obtain ⟨a, h1⟩ := rdFixed_short h8
      exact span_out (by omega) (run_bad1 (by omega) h1)
    have h1 := rdFixed_good hl h8
    by_cases h16 : l.length < k + 8 + 8
    · obtain ⟨a, h2⟩ := rdFixed_short h16
      exact span_out (by omega) (run_bad2 (by omega) h1 h2)
    have h2 := rdFixed_good hl h16
    by_cases h24 : l.length < k + 8 + 8 + 8
    · obtain ⟨a, h3⟩ := rdFixed_short h24
      exact span_out (by omega) (run_bad3 (by omega) h1 h2 h3)
    have h3 := rdFixed_good hl h24
    obtain ⟨a, h4⟩ := rdFixed_short (l := l) (k := k + 8 + 8 + 8) (by omega)
    exact span_out (by omega) (run_bad4 (by omega) h1 h2 h3 h4)
  have h1 := rdFixed_good (k := k) hl (by omega)
  have h2 := rdFixed_good (k := k + 8) hl (by omega)
  have h3 := rdFixed_good (k := k + 8 + 8) hl (by omega)
  have h4 := rdFixed_good (k := k + 8 + 8 + 8) hl (by omega)
  have ek : ((k + 8 + 8 + 8 + 8 : Nat) : Int) = (k : Int) + 32 := by omega
  rw [ek] at h4
  obtain ⟨n0, n1, n2, n3, hf4, -, -, -, -, e0, e1, e2, e3⟩ := fixed4_ok h32
  obtain ⟨nm, nx, et, ht⟩ : ∃ a b c, Vr.take l ((k : Int) + 32) 32 = (a, b, c) := ⟨_, _, _, rfl⟩
  have h5 : rdText l ((k : Int) + 32) 0 = (nm, nx, et) := by simp [rdText, ht]
  have hrd : readRef l k = if et ≠ 0 then (zeroSp, 0, et) else
    let p := nums l 3 [] nx
    if p.2.2 ≠ 0 then (zeroSp, 0, p.2.2)
    else if (l.length : Int) ≤ p.2.1 then (zeroSp, 0, 5)
    else if 1 < (l.getD p.2.1.toNat 0).toNat then (zeroSp, 0, 3)
    else
      let q := nums l 2 [] (p.2.1 + 1)
      if q.2.2 ≠ 0 then (zeroSp, 0, q.2.2)
      else
        let s : Sp := ⟨n0, n1, n2, n3, nm, p.1.getD 0 0, p.1.getD 1 0, p.1.getD 2 0, ((l.getD p.2.1.toNat 0).toNat : Int) == 1, q.1.getD 0 0, (q.1.getD 0 0 : Int) + q.1.getD 1 0⟩
        if check s ≠ 0 then (zeroSp, 0, check s) else (s, q.2.1, 0) := by
    simp only [readRef]
    rw [if_neg hx, if_neg (by simpa using h32), ht, show ((k : Int)).toNat = k from rfl, hf4]
    rfl
  rw [hrd]
  by_cases het : et ≠ 0
  · rw [if_pos het]; exact span_out het (run_bad5 het h1 h2 h3 h4 h5)
  obtain rfl : et = 0 := by omega
  rw [if_neg het]
  obtain ⟨v6, a6, b6, h6⟩ : ∃ a b c, num1 l nx = (a, b, c) := ⟨_, _, _, rfl⟩
  by_cases hb6 : b6 ≠ 0
  · have g6 := rdNum_fault (l := l) (a := nx) (by rw [h6]; exact hb6)
    rw [h6] at g6
    have := run_bad6 (b := b6) hb6 h1 h2 h3 h4 h5 (Prod.ext_iff.2 ⟨rfl, Prod.ext_iff.2 ⟨rfl, g6⟩⟩)
    rw [span_out hb6 this]
    simp [nums, h6, hb6]
  obtain rfl : b6 = 0 := by omega
  have k6 : rdNum l nx 0 = (v6, a6, 0) := by rw [rdNum_good (by rw [h6]), h6]
  obtain ⟨v7, a7, b7, h7⟩ : ∃ a b c, num1 l a6 = (a, b, c) := ⟨_, _, _, rfl⟩
  by_cases hb7 : b7 ≠ 0
  · have g7 := rdNum_fault (l := l) (a := a6) (by rw [h7]; exact hb7)
    rw [h7] at g7
    have := run_bad7 (b := b7) hb7 h1 h2 h3 h4 h5 k6 (Prod.ext_iff.2 ⟨rfl, Prod.ext_iff.2 ⟨rfl, g7⟩⟩)
    rw [span_out hb7 this]
    simp [nums, h6, h7, hb7]
  obtain rfl : b7 = 0 := by omega
  have k7 : rdNum l a6 0 = (v7, a7, 0) := by rw [rdNum_good (by rw [h7]), h7]
  obtain ⟨v8, a8, b8, h8⟩ : ∃ a b c, num1 l a7 = (a, b, c) := ⟨_, _, _, rfl⟩
  by_cases hb8 : b8 ≠ 0
  · have g8 := rdNum_fault (l := l) (a := a7) (by rw [h8]; exact hb8)
    rw [h8] at g8
    have := run_bad8 (b := b8) hb8 h1 h2 h3 h4 h5 k6 k7 (Prod.ext_iff.2 ⟨rfl, Prod.ext_iff.2 ⟨rfl, g8⟩⟩)
    rw [span_out hb8 this]
    simp [nums, h6, h7, h8, hb8]
  obtain rfl : b8 = 0 := by omega
  have k8 : rdNum l a7 0 = (v8, a8, 0) := by rw [rdNum_good (by rw [h8]), h8]
  have hp : nums l 3 [] nx = ([v6, v7, v8], a8, 0) := by simp [nums, h6, h7, h8]
  simp only [hp]
  rw [if_neg (by simp)]
  by_cases hc : (l.length : Int) ≤ a8
  · rw [if_pos hc]
    exact span_out (by omega) (run_bad9 (b := 5) (v9 := false) (a9 := a8) (by omega) h1 h2 h3 h4 h5 k6 k7 k8 (by simp [rdFlag, hc]))
  rw [if_neg hc]
  by_cases h1b : 1 < (l.getD a8.toNat 0).toNat
  · rw [if_pos h1b]
    exact span_out (by omega) (run_bad9 (b := 3) (v9 := false) (a9 := a8) (by omega) h1 h2 h3 h4 h5 k6 k7 k8 (by simp only [rdFlag, if_true]; rw [if_neg hc, if_pos h1b]))
  rw [if_neg h1b]
  have k9 : rdFlag l a8 0 = (((l.getD a8.toNat 0).toNat : Int) == 1, a8 + 1, 0) := by simp only [rdFlag, if_true]; rw [if_neg hc, if_neg h1b]
  obtain ⟨v10, a10, b10, h10⟩ : ∃ a b c, num1 l (a8 + 1) = (a, b, c) := ⟨_, _, _, rfl⟩
  by_cases hb10 : b10 ≠ 0
  · have g10 := rdNum_fault (l := l) (a := a8 + 1) (by rw [h10]; exact hb10)
    rw [h10] at g10
    have := run_bad10 (b := b10) hb10 h1 h2 h3 h4 h5 k6 k7 k8 k9 (Prod.ext_iff.2 ⟨rfl, Prod.ext_iff.2 ⟨rfl, g10⟩⟩)
    rw [span_out hb10 this]
    simp [nums, h10, hb10]
  obtain rfl : b10 = 0 := by omega
  have k10 : rdNum l (a8 + 1) 0 = (v10, a10, 0) := by rw [rdNum_good (by rw [h10]), h10]
  obtain ⟨v11, a11, b11, h11⟩ : ∃ a b c, num1 l a10 = (a, b, c) := ⟨_, _, _, rfl⟩
  by_cases hb11 : b11 ≠ 0
  · have g11 := rdNum_fault (l := l) (a := a10) (by rw [h11]; exact hb11)
    rw [h11] at g11
    have := run_bad11 (b := b11) hb11 h1 h2 h3 h4 h5 k6 k7 k8 k9 k10 (Prod.ext_iff.2 ⟨rfl, Prod.ext_iff.2 ⟨rfl, g11⟩⟩)
    rw [span_out hb11 this]
    simp [nums, h10, h11, hb11]
  obtain rfl : b11 = 0 := by omega
  have k11 : rdNum l a10 0 = (v11, a11, 0) := by rw [rdNum_good (by rw [h11]), h11]
  have hq : nums l 2 [] (a8 + 1) = ([v10, v11], a11, 0) := by simp [nums, h10, h11]
  simp only [hq]
  rw [if_neg (by simp)]
  have hrun := run_good h1 h2 h3 h4 h5 k6 k7 k8 k9 k10 k11
  simp only [List.getD_cons_zero, List.getD_cons_succ]
  rw [show k + 8 + 8 + 8 = k + 24 from rfl, show k + 8 + 8 = k + 16 from rfl, ← e0, ← e1, ← e2, ← e3] at hrun
  simp only [readSpan]
  rw [if_neg hx, hrun]
  simp only
  by_cases hcc : check ⟨n0, n1, n2, n3, nm, v6, v7, v8, ((l.getD a8.toNat 0).toNat : Int) == 1, v10, (v10 : Int) + v11⟩ = 0
  · rw [if_pos hcc, if_neg (by simpa using hcc), hcc]
  · rw [if_neg hcc, if_pos hcc]; rfl

end Go.Proofs.YtfbhdkkmcfnghaaGreat
end

section
namespace Go.Proofs.YtfbhdkkmcfnghaaGreat

theorem back_fixed (A B : List UInt8) (n : Nat) (hn : n < 18446744073709551616) {l : List UInt8} (e : l = A ++ (Oc.digs 256 8 n ++ B)) (hl : l.length ≤ 9223372036854775807) : rdFixed l (A.length : Nat) 0 = (n, ((A.length + 8 : Nat) : Int), 0) := by
  have h8 : (Oc.digs 256 8 n).length = 8 := Oc.digs_len 256 8 n
  subst e
  rw [rdFixed_good hl (by simp [h8])]
  rw [List.drop_left, List.take_append_of_le_length (by omega), List.take_of_length_le (by omega), Oc.num_digs 8 n (by simpa using hn)]

theorem back_num (A B : List UInt8) (n : Nat) (hn : n ≤ 1099511627776) {l : List UInt8} (e : l = A ++ (Vr.put n ++ B)) : rdNum l (A.length : Nat) 0 = (n, ((A.length + (Vr.put n).length : Nat) : Int), 0) := by
  subst e
  have h := Vr.get_back A B n (by omega)
  simp only [rdNum, h, if_true]
  rw [if_neg (by omega), Nat.min_eq_left hn]

theorem back_flag (A B : List UInt8) (b : Bool) {l : List UInt8} (e : l = A ++ (Vr.put b.toNat ++ B)) : rdFlag l (A.length : Nat) 0 = (b, ((A.length + (Vr.put b.toNat).length : Nat) : Int), 0) := by
  have hp : Vr.put b.toNat = [UInt8.ofNat b.toNat] := Vr.putF_small _ _ (by cases b <;> decide)
  subst e
  rw [hp]
  cases b <;> simp [rdFlag] <;> omega

theorem back_text (A B m : List UInt8) (hm : m.length ≤ 32) {l : List UInt8} (e : l = A ++ (Vr.text m ++ B)) : rdText l (A.length : Nat) 0 = (m, ((A.length + (Vr.text m).length : Nat) : Int), 0) := by
  subst e
  have hg := Vr.get_back A (m ++ B) m.length (by omega)
  rw [← List.append_assoc (Vr.put _), show Vr.put m.length ++ m = Vr.text m from rfl] at hg
  have hl : (Vr.text m).length = (Vr.put m.length).length + m.length := by simp [Vr.text]
  simp only [rdText, if_true]
  rw [Vr.take_fine hg (by omega) (by simp [hl]; omega)]
  have e1 : (((A.length + (Vr.put m.length).length : Nat) : Int)).toNat = A.length + (Vr.put m.length).length := by omega
  rw [e1, hl, ← List.drop_drop, List.drop_left]
  have e2 : Vr.text m ++ B = Vr.put m.length ++ (m ++ B) := by simp [Vr.text]
  rw [e2, List.drop_left, List.take_left]
  simp; omega

theorem span_back (A B : List UInt8) (s : Sp) (hs : s.fits) (hc : check s = 0) {l : List UInt8} (e : l = A ++ (spanBytes s ++ B)) (hl : l.length ≤ 9223372036854775807) :
    readSpan l (A.length : Nat) = (s, ((A.length + (spanBytes s).length : Nat) : Int), 0) := by
  obtain ⟨hi, lo, id, up, name, st, sq, kd, sh, t0, t1⟩ := s
  obtain ⟨k1, k2, k3, k4, k5⟩ := hs
  obtain ⟨_, _, c3, c4, c5, c6, c7, c8, c9, c10, c11, c12, c13⟩ := check_zero hc
  simp only [spanBytes] at *
  have hn : name.length ≤ 32 := by simp [nameOk] at c3; omega
  obtain ⟨a, rfl⟩ := Int.eq_ofNat_of_zero_le c4
  obtain ⟨b, rfl⟩ := Int.eq_ofNat_of_zero_le c6
  obtain ⟨c, rfl⟩ := Int.eq_ofNat_of_zero_le c8
  obtain ⟨u, rfl⟩ := Int.eq_ofNat_of_zero_le c10
  obtain ⟨v, hv⟩ := Int.eq_ofNat_of_zero_le (show 0 ≤ t1 - (u : Int) by omega)
  obtain rfl : t1 = (u : Int) + v := by omega
  rw [hv] at e ⊢
  simp only [Int.toNat_natCast] at e ⊢
  have d8 : ∀ n, (Oc.digs 256 8 n).length = 8 := fun n => Oc.digs_len 256 8 n
  have j : ∀ (X Y : List UInt8), ((X.length + Y.length : Nat) : Int) = (((X ++ Y).length : Nat) : Int) := fun X Y => by simp
  have h1 := back_fixed A _ hi k1 (l := l) (by rw [e]; simp only [List.append_assoc]; rfl) hl
  rw [← d8 hi, j] at h1
  have h2 := back_fixed (A ++ Oc.digs 256 8 hi) _ lo k2 (l := l) (by rw [e]; simp only [List.append_assoc]; rfl) hl
  rw [← d8 lo, j] at h2
  have h3 := back_fixed (A ++ Oc.digs 256 8 hi ++ Oc.digs 256 8 lo) _ id k3 (l := l) (by rw [e]; simp only [List.append_assoc]; rfl) hl
  rw [← d8 id, j] at h3
  have h4 := back_fixed (A ++ Oc.digs 256 8 hi ++ Oc.digs 256 8 lo ++ Oc.digs 256 8 id) _ up k4 (l := l) (by rw [e]; simp only [List.append_assoc]; rfl) hl
  rw [← d8 up, j] at h4
  have h5 := back_text (A ++ Oc.digs 256 8 hi ++ Oc.digs 256 8 lo ++ Oc.digs 256 8 id ++ Oc.digs 256 8 up) _ name hn (l := l) (by rw [e]; simp only [List.append_assoc]; rfl)
  rw [j] at h5
  have h6 := back_num (A ++ Oc.digs 256 8 hi ++ Oc.digs 256 8 lo ++ Oc.digs 256 8 id ++ Oc.digs 256 8 up ++ Vr.text name) _ a (by omega) (l := l) (by rw [e]; simp only [List.append_assoc]; rfl)
  rw [j] at h6
  have h7 := back_num (A ++ Oc.digs 256 8 hi ++ Oc.digs 256 8 lo ++ Oc.digs 256 8 id ++ Oc.digs 256 8 up ++ Vr.text name ++ Vr.put a) _ b (by omega) (l := l) (by rw [e]; simp only [List.append_assoc]; rfl)
  rw [j] at h7
  have h8 := back_num (A ++ Oc.digs 256 8 hi ++ Oc.digs 256 8 lo ++ Oc.digs 256 8 id ++ Oc.digs 256 8 up ++ Vr.text name ++ Vr.put a ++ Vr.put b) _ c (by omega) (l := l) (by rw [e]; simp only [List.append_assoc]; rfl)
  rw [j] at h8
  have h9 := back_flag (A ++ Oc.digs 256 8 hi ++ Oc.digs 256 8 lo ++ Oc.digs 256 8 id ++ Oc.digs 256 8 up ++ Vr.text name ++ Vr.put a ++ Vr.put b ++ Vr.put c) _ sh (l := l) (by rw [e]; simp only [List.append_assoc]; rfl)
  rw [j] at h9
  have h10 := back_num (A ++ Oc.digs 256 8 hi ++ Oc.digs 256 8 lo ++ Oc.digs 256 8 id ++ Oc.digs 256 8 up ++ Vr.text name ++ Vr.put a ++ Vr.put b ++ Vr.put c ++ Vr.put sh.toNat) _ u (by omega) (l := l) (by rw [e]; simp only [List.append_assoc]; rfl)
  rw [j] at h10
  have h11 := back_num (A ++ Oc.digs 256 8 hi ++ Oc.digs 256 8 lo ++ Oc.digs 256 8 id ++ Oc.digs 256 8 up ++ Vr.text name ++ Vr.put a ++ Vr.put b ++ Vr.put c ++ Vr.put sh.toNat ++ Vr.put u) _ v (by omega) (l := l) (by rw [e]; simp only [List.append_assoc]; rfl)
  have hr := run_good h1 h2 h3 h4 h5 h6 h7 h8 h9 h10 h11
  have hc' : check ⟨hi, lo, id, up, name, (a : Nat), (b : Nat), (c : Nat), sh, (u : Nat), (u : Int) + (v : Nat)⟩ = 0 := hc
  rw [hc'] at hr
  rw [readSpan, if_neg (by omega), hr, if_pos rfl]
  simp only [List.length_append, Nat.add_assoc]

theorem fwd_get {l : List UInt8} {k n : Nat} {y : Int} (h : Vr.get l (k : Nat) = (n, y, 0)) : ∃ m : Nat, y = ((k + m : Nat) : Int) ∧ k + m ≤ l.length ∧ Vr.put n = (l.drop k).take m ∧ n < 18446744073709551616 := by
  obtain ⟨z, m, hz, h1, h2, h3, _, h4, h5, h6⟩ := Vr.get_ok h
  obtain rfl : z = k := by omega
  have := (Vr.put_val (l.drop z) 0 m (by omega) h4).1
  rw [Nat.sub_zero, Nat.sub_zero, ← h5] at this
  exact ⟨m, h1, by omega, this, h6⟩

theorem fwd_fixed {l : List UInt8} {k n : Nat} {a : Int} (hl : l.length ≤ 9223372036854775807) (h : rdFixed l (k : Nat) 0 = (n, a, 0)) : a = ((k + 8 : Nat) : Int) ∧ k + 8 ≤ l.length ∧ Oc.digs 256 8 n = (l.drop k).take 8 ∧ n < 18446744073709551616 := by
  by_cases hk : l.length < k + 8
  · obtain ⟨a', h'⟩ := rdFixed_short hk
    rw [h'] at h
    simp at h
  · rw [rdFixed_good hl hk] at h
    simp only [Prod.mk.injEq] at h
    obtain ⟨rfl, rfl, _⟩ := h
    exact ⟨rfl, by omega, Oc.digs_num 8 _ (by simp; omega), Oc.num_bound _ 8 (by omega)⟩

theorem fwd_num {l : List UInt8} {k n : Nat} {a : Int} (h : rdNum l (k : Nat) 0 = (n, a, 0)) : ∃ m : Nat, a = ((k + m : Nat) : Int) ∧ k + m ≤ l.length ∧ Vr.put n = (l.drop k).take m := by
  obtain ⟨x, y, z, hg⟩ : ∃ x y z, Vr.get l (k : Nat) = (x, y, z) := ⟨_, _, _, rfl⟩
  simp only [rdNum, hg, if_true, Prod.mk.injEq] at h
  obtain ⟨h1, rfl, h3⟩ := h
  split at h3
  · omega
  · subst h3
    obtain ⟨m, e1, e2, e3, _⟩ := fwd_get hg
    obtain rfl : x = n := by omega
    exact ⟨m, e1, e2, e3⟩

theorem fwd_flag {l : List UInt8} {k : Nat} {b : Bool} {a : Int} (h : rdFlag l (k : Nat) 0 = (b, a, 0)) : a = ((k + 1 : Nat) : Int) ∧ k + 1 ≤ l.length ∧ Vr.put b.toNat = (l.drop k).take 1 := by
  have hp : ∀ b : Bool, Vr.put b.toNat = [UInt8.ofNat b.toNat] := fun b => Vr.putF_small _ _ (by cases b <;> decide)
  simp only [rdFlag, if_true] at h
  split at h
  · simp at h
  · split at h
    · simp at h
    · rename_i h1 h2
      simp only [Prod.mk.injEq] at h
      obtain ⟨rfl, rfl, _⟩ := h
      have hk : k < l.length := by omega
      refine ⟨by omega, by omega, ?_⟩
      have hgd : l.getD k 0 = l[k] := by simp [hk]
      rw [hp, Vr.drop_get hk]
      simp only [Int.toNat_natCast, hgd] at *
      have : l[k] = 0 ∨ l[k] = 1 := by
        rcases (by omega : l[k].toNat = 0 ∨ l[k].toNat = 1) with h | h
        · left; exact UInt8.toNat_inj.1 (by simpa using h)
        · right; exact UInt8.toNat_inj.1 (by simpa using h)
      rcases this with h | h <;> simp [h]

theorem fwd_text {l m : List UInt8} {k : Nat} {a : Int} (h : rdText l (k : Nat) 0 = (m, a, 0)) : ∃ j : Nat, a = ((k + j : Nat) : Int) ∧ k + j ≤ l.length ∧ Vr.text m = (l.drop k).take j := by
  obtain ⟨x, y, z, hg⟩ : ∃ x y z, Vr.get l (k : Nat) = (x, y, z) := ⟨_, _, _, rfl⟩
  simp only [rdText, Vr.take, hg, if_true] at h
  split at h
  · simp at h; omega
  · rename_i hz
    obtain rfl : z = 0 := by omega
    obtain ⟨q, rfl, e2, e3, _⟩ := fwd_get hg
    split at h
    · simp at h
    · split at h
      · simp at h
      · rename_i h1 h2
        simp only [Prod.mk.injEq] at h
        obtain ⟨rfl, rfl, _⟩ := h
        refine ⟨q + x, by omega, by omega, ?_⟩
        rw [show (((k + q : Nat) : Int)).toNat = k + q from by omega]
        rw [Vr.text, List.take_add, List.drop_drop, ← e3]
        congr 1
        simp
        rw [Nat.min_eq_left (by omega)]

theorem span_fwd {l : List UInt8} {s : Sp} {y : Int} (hl : l.length ≤ 9223372036854775807) (h : readSpan l 0 = (s, y, 0)) : ∃ m : Nat, y = (m : Int) ∧ m ≤ l.length ∧ check s = 0 ∧ spanBytes s = l.take m ∧ s.fits := by
  have hrun : readRun l ((0 : Nat) : Int) = (s, y, 0) := by
    rw [show (0 : Int) = ((0 : Nat) : Int) from rfl] at h
    unfold readSpan at h
    rw [if_neg (by omega)] at h
    obtain ⟨⟨r1, r2, r3⟩, hR⟩ : ∃ R, readRun l ((0 : Nat) : Int) = R := ⟨_, rfl⟩
    rw [hR] at h ⊢
    simp only at h
    split at h
    · exact h
    · simp only [Prod.mk.injEq] at h
      omega
  have hr : (readRun l ((0 : Nat) : Int)).2.2 = 0 := by rw [hrun]
  clear h
  obtain ⟨v1, a1, b1, h1⟩ : ∃ x y z, rdFixed l ((0 : Nat) : Int) 0 = (x, y, z) := ⟨_, _, _, rfl⟩
  obtain rfl : b1 = 0 := by
    by_cases hb : b1 = 0
    · exact hb
    · exact absurd (run_bad1 hb h1) (by rw [hr]; omega)
  obtain ⟨rfl, g1, e1, f1⟩ := fwd_fixed hl h1
  obtain ⟨v2, a2, b2, h2⟩ : ∃ x y z, rdFixed l ((0 + 8 : Nat) : Int) 0 = (x, y, z) := ⟨_, _, _, rfl⟩
  obtain rfl : b2 = 0 := by
    by_cases hb : b2 = 0
    · exact hb
    · exact absurd (run_bad2 hb h1 h2) (by rw [hr]; omega)
  obtain ⟨rfl, g2, e2, f2⟩ := fwd_fixed hl h2
  obtain ⟨v3, a3, b3, h3⟩ : ∃ x y z, rdFixed l ((0 + 8 + 8 : Nat) : Int) 0 = (x, y, z) := ⟨_, _, _, rfl⟩
  obtain rfl : b3 = 0 := by
    by_cases hb : b3 = 0
    · exact hb
    · exact absurd (run_bad3 hb h1 h2 h3) (by rw [hr]; omega)
  obtain ⟨rfl, g3, e3, f3⟩ := fwd_fixed hl h3
  obtain ⟨v4, a4, b4, h4⟩ : ∃ x y z, rdFixed l ((0 + 8 + 8 + 8 : Nat) : Int) 0 = (x, y, z) := ⟨_, _, _, rfl⟩
  obtain rfl : b4 = 0 := by
    by_cases hb : b4 = 0
    · exact hb
    · exact absurd (run_bad4 hb h1 h2 h3 h4) (by rw [hr]; omega)
  obtain ⟨rfl, g4, e4, f4⟩ := fwd_fixed hl h4
  obtain ⟨v5, a5, b5, h5⟩ : ∃ x y z, rdText l ((0 + 8 + 8 + 8 + 8 : Nat) : Int) 0 = (x, y, z) := ⟨_, _, _, rfl⟩
  obtain rfl : b5 = 0 := by
    by_cases hb : b5 = 0
    · exact hb
    · exact absurd (run_bad5 hb h1 h2 h3 h4 h5) (by rw [hr]; omega)
  obtain ⟨m5, rfl, g5, e5⟩ := fwd_text h5
  obtain ⟨v6, a6, b6, h6⟩ : ∃ x y z, rdNum l ((0 + 8 + 8 + 8 + 8 + m5 : Nat) : Int) 0 = (x, y, z) := ⟨_, _, _, rfl⟩
  obtain rfl : b6 = 0 := by
    by_cases hb : b6 = 0
    · exact hb
    · exact absurd (run_bad6 hb h1 h2 h3 h4 h5 h6) (by rw [hr]; omega)
  obtain ⟨m6, rfl, g6, e6⟩ := fwd_num h6
  obtain ⟨v7, a7, b7, h7⟩ : ∃ x y z, rdNum l ((0 + 8 + 8 + 8 + 8 + m5 + m6 : Nat) : Int) 0 = (x, y, z) := ⟨_, _, _, rfl⟩
  obtain rfl : b7 = 0 := by
    by_cases hb : b7 = 0
    · exact hb
    · exact absurd (run_bad7 hb h1 h2 h3 h4 h5 h6 h7) (by rw [hr]; omega)
  obtain ⟨m7, rfl, g7, e7⟩ := fwd_num h7
  obtain ⟨v8, a8, b8, h8⟩ : ∃ x y z, rdNum l ((0 + 8 + 8 + 8 + 8 + m5 + m6 + m7 : Nat) : Int) 0 = (x, y, z) := ⟨_, _, _, rfl⟩
  obtain rfl : b8 = 0 := by
    by_cases hb : b8 = 0
    · exact hb
    · exact absurd (run_bad8 hb h1 h2 h3 h4 h5 h6 h7 h8) (by rw [hr]; omega)
  obtain ⟨m8, rfl, g8, e8⟩ := fwd_num h8
  obtain ⟨v9, a9, b9, h9⟩ : ∃ x y z, rdFlag l ((0 + 8 + 8 + 8 + 8 + m5 + m6 + m7 + m8 : Nat) : Int) 0 = (x, y, z) := ⟨_, _, _, rfl⟩
  obtain rfl : b9 = 0 := by
    by_cases hb : b9 = 0
    · exact hb
    · exact absurd (run_bad9 hb h1 h2 h3 h4 h5 h6 h7 h8 h9) (by rw [hr]; omega)
  obtain ⟨rfl, g9, e9⟩ := fwd_flag h9
  obtain ⟨v10, a10, b10, h10⟩ : ∃ x y z, rdNum l ((0 + 8 + 8 + 8 + 8 + m5 + m6 + m7 + m8 + 1 : Nat) : Int) 0 = (x, y, z) := ⟨_, _, _, rfl⟩
  obtain rfl : b10 = 0 := by
    by_cases hb : b10 = 0
    · exact hb
    · exact absurd (run_bad10 hb h1 h2 h3 h4 h5 h6 h7 h8 h9 h10) (by rw [hr]; omega)
  obtain ⟨m10, rfl, g10, e10⟩ := fwd_num h10
  obtain ⟨v11, a11, b11, h11⟩ : ∃ x y z, rdNum l ((0 + 8 + 8 + 8 + 8 + m5 + m6 + m7 + m8 + 1 + m10 : Nat) : Int) 0 = (x, y, z) := ⟨_, _, _, rfl⟩
  obtain rfl : b11 = 0 := by
    by_cases hb : b11 = 0
    · exact hb
    · exact absurd (run_bad11 hb h1 h2 h3 h4 h5 h6 h7 h8 h9 h10 h11) (by rw [hr]; omega)
  obtain ⟨m11, rfl, g11, e11⟩ := fwd_num h11
  have hg := run_good h1 h2 h3 h4 h5 h6 h7 h8 h9 h10 h11
  rw [hrun] at hg
  simp only [Prod.mk.injEq] at hg
  obtain ⟨rfl, rfl, hc⟩ := hg
  refine ⟨_, rfl, g11, hc.symm, ?_, ⟨f1, f2, f3, f4, ?_⟩⟩
  rotate_left
  · have := (check_zero hc.symm).2.2.1
    simp [nameOk] at this
    simp; omega
  simp only [spanBytes, Int.toNat_natCast]
  rw [show ((v10 : Int) + v11 - v10).toNat = v11 from by omega]
  have T : ∀ k m, l.take (k + m) = l.take k ++ (l.drop k).take m := fun k m => List.take_add
  rw [e1, e2, e3, e4, e5, e6, e7, e8, e9, e10, e11, T, T, T, T, T, T, T, T, T, T, T]
  simp only [List.append_assoc, List.take_zero, List.nil_append]

theorem write_good {s : Sp} (h : check s = 0) : write s = (spanBytes s, 0) := by unfold write; rw [if_pos h]
theorem write_bad {s : Sp} (h : ¬ check s = 0) : write s = ([], check s) := by unfold write; rw [if_neg h]

end Go.Proofs.YtfbhdkkmcfnghaaGreat
end
