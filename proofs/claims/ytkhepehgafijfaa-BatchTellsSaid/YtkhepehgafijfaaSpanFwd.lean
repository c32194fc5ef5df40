/- What is read of bytes from any place on is written as those bytes, in plain Lean. No condition. -/
import Derived.Test.YtkhepehgafijfaaSpanBackSpec
namespace Go.Proofs.Ytkhepehgafijfaa

theorem span_fwdk {l : List UInt8} {s : Sp} {k : Nat} {y : Int} (hl : l.length ≤ 9223372036854775807) (h : readSpan l (k : Nat) = (s, y, 0)) : ∃ m : Nat, y = ((k + m : Nat) : Int) ∧ k + m ≤ l.length ∧ check s = 0 ∧ spanBytes s = (l.drop k).take m ∧ s.fits := by
  have hrun : readRun l ((k : Nat) : Int) = (s, y, 0) := by
    unfold readSpan at h
    rw [if_neg (by omega)] at h
    obtain ⟨⟨r1, r2, r3⟩, hR⟩ : ∃ R, readRun l ((k : Nat) : Int) = R := ⟨_, rfl⟩
    rw [hR] at h ⊢
    simp only at h
    split at h
    · exact h
    · simp only [Prod.mk.injEq] at h
      omega
  have hr : (readRun l ((k : Nat) : Int)).2.2 = 0 := by rw [hrun]
  clear h
  obtain ⟨v1, a1, b1, h1⟩ : ∃ x y z, rdFixed l ((k : Nat) : Int) 0 = (x, y, z) := ⟨_, _, _, rfl⟩
  obtain rfl : b1 = 0 := by
    by_cases hb : b1 = 0
    · exact hb
    · exact absurd (run_bad1 hb h1) (by rw [hr]; omega)
  obtain ⟨rfl, g1, e1, f1⟩ := fwd_fixed hl h1
  obtain ⟨v2, a2, b2, h2⟩ : ∃ x y z, rdFixed l ((k + 8 : Nat) : Int) 0 = (x, y, z) := ⟨_, _, _, rfl⟩
  obtain rfl : b2 = 0 := by
    by_cases hb : b2 = 0
    · exact hb
    · exact absurd (run_bad2 hb h1 h2) (by rw [hr]; omega)
  obtain ⟨rfl, g2, e2, f2⟩ := fwd_fixed hl h2
  obtain ⟨v3, a3, b3, h3⟩ : ∃ x y z, rdFixed l ((k + 8 + 8 : Nat) : Int) 0 = (x, y, z) := ⟨_, _, _, rfl⟩
  obtain rfl : b3 = 0 := by
    by_cases hb : b3 = 0
    · exact hb
    · exact absurd (run_bad3 hb h1 h2 h3) (by rw [hr]; omega)
  obtain ⟨rfl, g3, e3, f3⟩ := fwd_fixed hl h3
  obtain ⟨v4, a4, b4, h4⟩ : ∃ x y z, rdFixed l ((k + 8 + 8 + 8 : Nat) : Int) 0 = (x, y, z) := ⟨_, _, _, rfl⟩
  obtain rfl : b4 = 0 := by
    by_cases hb : b4 = 0
    · exact hb
    · exact absurd (run_bad4 hb h1 h2 h3 h4) (by rw [hr]; omega)
  obtain ⟨rfl, g4, e4, f4⟩ := fwd_fixed hl h4
  obtain ⟨v5, a5, b5, h5⟩ : ∃ x y z, rdText l ((k + 8 + 8 + 8 + 8 : Nat) : Int) 0 = (x, y, z) := ⟨_, _, _, rfl⟩
  obtain rfl : b5 = 0 := by
    by_cases hb : b5 = 0
    · exact hb
    · exact absurd (run_bad5 hb h1 h2 h3 h4 h5) (by rw [hr]; omega)
  obtain ⟨m5, rfl, g5, e5⟩ := fwd_text h5
  obtain ⟨v6, a6, b6, h6⟩ : ∃ x y z, rdNum l ((k + 8 + 8 + 8 + 8 + m5 : Nat) : Int) 0 = (x, y, z) := ⟨_, _, _, rfl⟩
  obtain rfl : b6 = 0 := by
    by_cases hb : b6 = 0
    · exact hb
    · exact absurd (run_bad6 hb h1 h2 h3 h4 h5 h6) (by rw [hr]; omega)
  obtain ⟨m6, rfl, g6, e6⟩ := fwd_num h6
  obtain ⟨v7, a7, b7, h7⟩ : ∃ x y z, rdNum l ((k + 8 + 8 + 8 + 8 + m5 + m6 : Nat) : Int) 0 = (x, y, z) := ⟨_, _, _, rfl⟩
  obtain rfl : b7 = 0 := by
    by_cases hb : b7 = 0
    · exact hb
    · exact absurd (run_bad7 hb h1 h2 h3 h4 h5 h6 h7) (by rw [hr]; omega)
  obtain ⟨m7, rfl, g7, e7⟩ := fwd_num h7
  obtain ⟨v8, a8, b8, h8⟩ : ∃ x y z, rdNum l ((k + 8 + 8 + 8 + 8 + m5 + m6 + m7 : Nat) : Int) 0 = (x, y, z) := ⟨_, _, _, rfl⟩
  obtain rfl : b8 = 0 := by
    by_cases hb : b8 = 0
    · exact hb
    · exact absurd (run_bad8 hb h1 h2 h3 h4 h5 h6 h7 h8) (by rw [hr]; omega)
  obtain ⟨m8, rfl, g8, e8⟩ := fwd_num h8
  obtain ⟨v9, a9, b9, h9⟩ : ∃ x y z, rdFlag l ((k + 8 + 8 + 8 + 8 + m5 + m6 + m7 + m8 : Nat) : Int) 0 = (x, y, z) := ⟨_, _, _, rfl⟩
  obtain rfl : b9 = 0 := by
    by_cases hb : b9 = 0
    · exact hb
    · exact absurd (run_bad9 hb h1 h2 h3 h4 h5 h6 h7 h8 h9) (by rw [hr]; omega)
  obtain ⟨rfl, g9, e9⟩ := fwd_flag h9
  obtain ⟨v10, a10, b10, h10⟩ : ∃ x y z, rdNum l ((k + 8 + 8 + 8 + 8 + m5 + m6 + m7 + m8 + 1 : Nat) : Int) 0 = (x, y, z) := ⟨_, _, _, rfl⟩
  obtain rfl : b10 = 0 := by
    by_cases hb : b10 = 0
    · exact hb
    · exact absurd (run_bad10 hb h1 h2 h3 h4 h5 h6 h7 h8 h9 h10) (by rw [hr]; omega)
  obtain ⟨m10, rfl, g10, e10⟩ := fwd_num h10
  obtain ⟨v11, a11, b11, h11⟩ : ∃ x y z, rdNum l ((k + 8 + 8 + 8 + 8 + m5 + m6 + m7 + m8 + 1 + m10 : Nat) : Int) 0 = (x, y, z) := ⟨_, _, _, rfl⟩
  obtain rfl : b11 = 0 := by
    by_cases hb : b11 = 0
    · exact hb
    · exact absurd (run_bad11 hb h1 h2 h3 h4 h5 h6 h7 h8 h9 h10 h11) (by rw [hr]; omega)
  obtain ⟨m11, rfl, g11, e11⟩ := fwd_num h11
  have hg := run_good h1 h2 h3 h4 h5 h6 h7 h8 h9 h10 h11
  rw [hrun] at hg
  simp only [Prod.mk.injEq] at hg
  obtain ⟨rfl, rfl, hc⟩ := hg
  refine ⟨8 + 8 + 8 + 8 + m5 + m6 + m7 + m8 + 1 + m10 + m11, by simp only [Nat.add_assoc], by omega, hc.symm, ?_, ⟨f1, f2, f3, f4, ?_⟩⟩
  rotate_left
  · have := (check_zero hc.symm).2.2.1
    simp [nameOk] at this
    simp; omega
  simp only [spanBytes, Int.toNat_natCast]
  rw [show ((v10 : Int) + v11 - v10).toNat = v11 from by omega]
  have T : ∀ x m, (l.drop k).take (x + m) = (l.drop k).take x ++ (l.drop (k + x)).take m := fun x m => by rw [List.take_add, List.drop_drop]
  rw [e1, e2, e3, e4, e5, e6, e7, e8, e9, e10, e11, T, T, T, T, T, T, T, T, T, T]
  simp only [List.append_assoc, Nat.add_assoc]

theorem span_none {l : List UInt8} {a : Int} {s : Sp} {y : Int} {e : Nat} (h : readSpan l a = (s, y, e)) (he : e ≠ 0) : s = ⟨0, 0, 0, 0, [], 0, 0, 0, false, 0, 0⟩ ∧ y = 0 := by
  unfold readSpan at h
  split at h
  · simp only [Prod.mk.injEq] at h; exact ⟨h.1.symm, h.2.1.symm⟩
  · split at h
    · rename_i h2; rw [h] at h2; exact absurd h2 he
    · simp only [Prod.mk.injEq] at h; exact ⟨h.1.symm, h.2.1.symm⟩
theorem readSpan_neg {l : List UInt8} {a : Int} (h : a < 0) : readSpan l a = (⟨0, 0, 0, 0, [], 0, 0, 0, false, 0, 0⟩, 0, 2) := by simp [readSpan, h]
end Go.Proofs.Ytkhepehgafijfaa
