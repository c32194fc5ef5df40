/- What was written comes back, in plain Lean. Condition: texts no longer than an int can say. -/
import Derived.Test.YtkhepehgafijfaaSpanSame
import Derived.Test.YtkhepehgafijfaaSpanSpec
namespace Go.Proofs.Ytkhepehgafijfaa

theorem back_fixed (A B : List UInt8) (n : Nat) (hn : n < 18446744073709551616) {l : List UInt8} (e : l = A ++ (Oc.digs 256 8 n ++ B)) (hl : l.length ≤ 9223372036854775807) : rdFixed l (A.length : Nat) 0 = (n, ((A.length + 8 : Nat) : Int), 0) := by
  have h8 : (Oc.digs 256 8 n).length = 8 := Oc.digs_len 256 8 n
  subst e
  rw [rdFixed_good hl (by simp [h8])]
  rw [List.drop_left, List.take_append_of_le_length (by omega), List.take_of_length_le (by omega), Oc.num_digs 8 n (by simpa using hn)]

theorem back_num (A B : List UInt8) (n : Nat) (hn : n ≤ 1099511627776) {l : List UInt8} (e : l = A ++ (Vr.put n ++ B)) : rdNum l (A.length : Nat) 0 = (n, ((A.length + (Vr.put n).length : Nat) : Int), 0) := by
  subst e
  have h := Vr.get_back A B n (by omega)
  simp only [rdNum, h, if_true]
  rw [if_neg (by omega), Nat.min_eq_left hn]

theorem back_flag (A B : List UInt8) (b : Bool) {l : List UInt8} (e : l = A ++ (Vr.put b.toNat ++ B)) : rdFlag l (A.length : Nat) 0 = (b, ((A.length + (Vr.put b.toNat).length : Nat) : Int), 0) := by
  have hp : Vr.put b.toNat = [UInt8.ofNat b.toNat] := Vr.putF_small _ _ (by cases b <;> decide)
  subst e
  rw [hp]
  cases b <;> simp [rdFlag] <;> omega

theorem back_text (A B m : List UInt8) (hm : m.length ≤ 32) {l : List UInt8} (e : l = A ++ (Vr.text m ++ B)) : rdText l (A.length : Nat) 0 = (m, ((A.length + (Vr.text m).length : Nat) : Int), 0) := by
  subst e
  have hg := Vr.get_back A (m ++ B) m.length (by omega)
  rw [← List.append_assoc (Vr.put _), show Vr.put m.length ++ m = Vr.text m from rfl] at hg
  have hl : (Vr.text m).length = (Vr.put m.length).length + m.length := by simp [Vr.text]
  simp only [rdText, if_true]
  rw [Vr.take_fine hg (by omega) (by simp [hl]; omega)]
  have e1 : (((A.length + (Vr.put m.length).length : Nat) : Int)).toNat = A.length + (Vr.put m.length).length := by omega
  rw [e1, hl, ← List.drop_drop, List.drop_left]
  have e2 : Vr.text m ++ B = Vr.put m.length ++ (m ++ B) := by simp [Vr.text]
  rw [e2, List.drop_left, List.take_left]
  simp; omega

theorem span_back (A B : List UInt8) (s : Sp) (hs : s.fits) (hc : check s = 0) {l : List UInt8} (e : l = A ++ (spanBytes s ++ B)) (hl : l.length ≤ 9223372036854775807) :
    readSpan l (A.length : Nat) = (s, ((A.length + (spanBytes s).length : Nat) : Int), 0) := by
  obtain ⟨hi, lo, id, up, name, st, sq, kd, sh, t0, t1⟩ := s
  obtain ⟨k1, k2, k3, k4, k5⟩ := hs
  obtain ⟨_, _, c3, c4, c5, c6, c7, c8, c9, c10, c11, c12, c13⟩ := check_zero hc
  simp only [spanBytes] at *
  have hn : name.length ≤ 32 := by simp [nameOk] at c3; omega
  obtain ⟨a, rfl⟩ := Int.eq_ofNat_of_zero_le c4
  obtain ⟨b, rfl⟩ := Int.eq_ofNat_of_zero_le c6
  obtain ⟨c, rfl⟩ := Int.eq_ofNat_of_zero_le c8
  obtain ⟨u, rfl⟩ := Int.eq_ofNat_of_zero_le c10
  obtain ⟨v, hv⟩ := Int.eq_ofNat_of_zero_le (show 0 ≤ t1 - (u : Int) by omega)
  obtain rfl : t1 = (u : Int) + v := by omega
  rw [hv] at e ⊢
  simp only [Int.toNat_natCast] at e ⊢
  have d8 : ∀ n, (Oc.digs 256 8 n).length = 8 := fun n => Oc.digs_len 256 8 n
  have j : ∀ (X Y : List UInt8), ((X.length + Y.length : Nat) : Int) = (((X ++ Y).length : Nat) : Int) := fun X Y => by simp
  have h1 := back_fixed A _ hi k1 (l := l) (by rw [e]; simp only [List.append_assoc]; rfl) hl
  rw [← d8 hi, j] at h1
  have h2 := back_fixed (A ++ Oc.digs 256 8 hi) _ lo k2 (l := l) (by rw [e]; simp only [List.append_assoc]; rfl) hl
  rw [← d8 lo, j] at h2
  have h3 := back_fixed (A ++ Oc.digs 256 8 hi ++ Oc.digs 256 8 lo) _ id k3 (l := l) (by rw [e]; simp only [List.append_assoc]; rfl) hl
  rw [← d8 id, j] at h3
  have h4 := back_fixed (A ++ Oc.digs 256 8 hi ++ Oc.digs 256 8 lo ++ Oc.digs 256 8 id) _ up k4 (l := l) (by rw [e]; simp only [List.append_assoc]; rfl) hl
  rw [← d8 up, j] at h4
  have h5 := back_text (A ++ Oc.digs 256 8 hi ++ Oc.digs 256 8 lo ++ Oc.digs 256 8 id ++ Oc.digs 256 8 up) _ name hn (l := l) (by rw [e]; simp only [List.append_assoc]; rfl)
  rw [j] at h5
  have h6 := back_num (A ++ Oc.digs 256 8 hi ++ Oc.digs 256 8 lo ++ Oc.digs 256 8 id ++ Oc.digs 256 8 up ++ Vr.text name) _ a (by omega) (l := l) (by rw [e]; simp only [List.append_assoc]; rfl)
  rw [j] at h6
  have h7 := back_num (A ++ Oc.digs 256 8 hi ++ Oc.digs 256 8 lo ++ Oc.digs 256 8 id ++ Oc.digs 256 8 up ++ Vr.text name ++ Vr.put a) _ b (by omega) (l := l) (by rw [e]; simp only [List.append_assoc]; rfl)
  rw [j] at h7
  have h8 := back_num (A ++ Oc.digs 256 8 hi ++ Oc.digs 256 8 lo ++ Oc.digs 256 8 id ++ Oc.digs 256 8 up ++ Vr.text name ++ Vr.put a ++ Vr.put b) _ c (by omega) (l := l) (by rw [e]; simp only [List.append_assoc]; rfl)
  rw [j] at h8
  have h9 := back_flag (A ++ Oc.digs 256 8 hi ++ Oc.digs 256 8 lo ++ Oc.digs 256 8 id ++ Oc.digs 256 8 up ++ Vr.text name ++ Vr.put a ++ Vr.put b ++ Vr.put c) _ sh (l := l) (by rw [e]; simp only [List.append_assoc]; rfl)
  rw [j] at h9
  have h10 := back_num (A ++ Oc.digs 256 8 hi ++ Oc.digs 256 8 lo ++ Oc.digs 256 8 id ++ Oc.digs 256 8 up ++ Vr.text name ++ Vr.put a ++ Vr.put b ++ Vr.put c ++ Vr.put sh.toNat) _ u (by omega) (l := l) (by rw [e]; simp only [List.append_assoc]; rfl)
  rw [j] at h10
  have h11 := back_num (A ++ Oc.digs 256 8 hi ++ Oc.digs 256 8 lo ++ Oc.digs 256 8 id ++ Oc.digs 256 8 up ++ Vr.text name ++ Vr.put a ++ Vr.put b ++ Vr.put c ++ Vr.put sh.toNat ++ Vr.put u) _ v (by omega) (l := l) (by rw [e]; simp only [List.append_assoc]; rfl)
  have hr := run_good h1 h2 h3 h4 h5 h6 h7 h8 h9 h10 h11
  have hc' : check ⟨hi, lo, id, up, name, (a : Nat), (b : Nat), (c : Nat), sh, (u : Nat), (u : Int) + (v : Nat)⟩ = 0 := hc
  rw [hc'] at hr
  rw [readSpan, if_neg (by omega), hr, if_pos rfl]
  simp only [List.length_append, Nat.add_assoc]

theorem fwd_get {l : List UInt8} {k n : Nat} {y : Int} (h : Vr.get l (k : Nat) = (n, y, 0)) : ∃ m : Nat, y = ((k + m : Nat) : Int) ∧ k + m ≤ l.length ∧ Vr.put n = (l.drop k).take m ∧ n < 18446744073709551616 := by
  obtain ⟨z, m, hz, h1, h2, h3, _, h4, h5, h6⟩ := Vr.get_ok h
  obtain rfl : z = k := by omega
  have := (Vr.put_val (l.drop z) 0 m (by omega) h4).1
  rw [Nat.sub_zero, Nat.sub_zero, ← h5] at this
  exact ⟨m, h1, by omega, this, h6⟩

theorem fwd_fixed {l : List UInt8} {k n : Nat} {a : Int} (hl : l.length ≤ 9223372036854775807) (h : rdFixed l (k : Nat) 0 = (n, a, 0)) : a = ((k + 8 : Nat) : Int) ∧ k + 8 ≤ l.length ∧ Oc.digs 256 8 n = (l.drop k).take 8 ∧ n < 18446744073709551616 := by
  by_cases hk : l.length < k + 8
  · obtain ⟨a', h'⟩ := rdFixed_short hk
    rw [h'] at h
    simp at h
  · rw [rdFixed_good hl hk] at h
    simp only [Prod.mk.injEq] at h
    obtain ⟨rfl, rfl, _⟩ := h
    exact ⟨rfl, by omega, Oc.digs_num 8 _ (by simp; omega), Oc.num_bound _ 8 (by omega)⟩

theorem fwd_num {l : List UInt8} {k n : Nat} {a : Int} (h : rdNum l (k : Nat) 0 = (n, a, 0)) : ∃ m : Nat, a = ((k + m : Nat) : Int) ∧ k + m ≤ l.length ∧ Vr.put n = (l.drop k).take m := by
  obtain ⟨x, y, z, hg⟩ : ∃ x y z, Vr.get l (k : Nat) = (x, y, z) := ⟨_, _, _, rfl⟩
  simp only [rdNum, hg, if_true, Prod.mk.injEq] at h
  obtain ⟨h1, rfl, h3⟩ := h
  split at h3
  · omega
  · subst h3
    obtain ⟨m, e1, e2, e3, _⟩ := fwd_get hg
    obtain rfl : x = n := by omega
    exact ⟨m, e1, e2, e3⟩

theorem fwd_flag {l : List UInt8} {k : Nat} {b : Bool} {a : Int} (h : rdFlag l (k : Nat) 0 = (b, a, 0)) : a = ((k + 1 : Nat) : Int) ∧ k + 1 ≤ l.length ∧ Vr.put b.toNat = (l.drop k).take 1 := by
  have hp : ∀ b : Bool, Vr.put b.toNat = [UInt8.ofNat b.toNat] := fun b => Vr.putF_small _ _ (by cases b <;> decide)
  simp only [rdFlag, if_true] at h
  split at h
  · simp at h
  · split at h
    · simp at h
    · rename_i h1 h2
      simp only [Prod.mk.injEq] at h
      obtain ⟨rfl, rfl, _⟩ := h
      have hk : k < l.length := by omega
      refine ⟨by omega, by omega, ?_⟩
      have hgd : l.getD k 0 = l[k] := by simp [hk]
      rw [hp, Vr.drop_get hk]
      simp only [Int.toNat_natCast, hgd] at *
      have : l[k] = 0 ∨ l[k] = 1 := by
        rcases (by omega : l[k].toNat = 0 ∨ l[k].toNat = 1) with h | h
        · left; exact UInt8.toNat_inj.1 (by simpa using h)
        · right; exact UInt8.toNat_inj.1 (by simpa using h)
      rcases this with h | h <;> simp [h]

theorem fwd_text {l m : List UInt8} {k : Nat} {a : Int} (h : rdText l (k : Nat) 0 = (m, a, 0)) : ∃ j : Nat, a = ((k + j : Nat) : Int) ∧ k + j ≤ l.length ∧ Vr.text m = (l.drop k).take j := by
  obtain ⟨x, y, z, hg⟩ : ∃ x y z, Vr.get l (k : Nat) = (x, y, z) := ⟨_, _, _, rfl⟩
  simp only [rdText, Vr.take, hg, if_true] at h
  split at h
  · simp at h; omega
  · rename_i hz
    obtain rfl : z = 0 := by omega
    obtain ⟨q, rfl, e2, e3, _⟩ := fwd_get hg
    split at h
    · simp at h
    · split at h
      · simp at h
      · rename_i h1 h2
        simp only [Prod.mk.injEq] at h
        obtain ⟨rfl, rfl, _⟩ := h
        refine ⟨q + x, by omega, by omega, ?_⟩
        rw [show (((k + q : Nat) : Int)).toNat = k + q from by omega]
        rw [Vr.text, List.take_add, List.drop_drop, ← e3]
        congr 1
        simp
        rw [Nat.min_eq_left (by omega)]

theorem span_fwd {l : List UInt8} {s : Sp} {y : Int} (hl : l.length ≤ 9223372036854775807) (h : readSpan l 0 = (s, y, 0)) : ∃ m : Nat, y = (m : Int) ∧ m ≤ l.length ∧ check s = 0 ∧ spanBytes s = l.take m ∧ s.fits := by
  have hrun : readRun l ((0 : Nat) : Int) = (s, y, 0) := by
    rw [show (0 : Int) = ((0 : Nat) : Int) from rfl] at h
    unfold readSpan at h
    rw [if_neg (by omega)] at h
    obtain ⟨⟨r1, r2, r3⟩, hR⟩ : ∃ R, readRun l ((0 : Nat) : Int) = R := ⟨_, rfl⟩
    rw [hR] at h ⊢
    simp only at h
    split at h
    · exact h
    · simp only [Prod.mk.injEq] at h
      omega
  have hr : (readRun l ((0 : Nat) : Int)).2.2 = 0 := by rw [hrun]
  clear h
  obtain ⟨v1, a1, b1, h1⟩ : ∃ x y z, rdFixed l ((0 : Nat) : Int) 0 = (x, y, z) := ⟨_, _, _, rfl⟩
  obtain rfl : b1 = 0 := by
    by_cases hb : b1 = 0
    · exact hb
    · exact absurd (run_bad1 hb h1) (by rw [hr]; omega)
  obtain ⟨rfl, g1, e1, f1⟩ := fwd_fixed hl h1
  obtain ⟨v2, a2, b2, h2⟩ : ∃ x y z, rdFixed l ((0 + 8 : Nat) : Int) 0 = (x, y, z) := ⟨_, _, _, rfl⟩
  obtain rfl : b2 = 0 := by
    by_cases hb : b2 = 0
    · exact hb
    · exact absurd (run_bad2 hb h1 h2) (by rw [hr]; omega)
  obtain ⟨rfl, g2, e2, f2⟩ := fwd_fixed hl h2
  obtain ⟨v3, a3, b3, h3⟩ : ∃ x y z, rdFixed l ((0 + 8 + 8 : Nat) : Int) 0 = (x, y, z) := ⟨_, _, _, rfl⟩
  obtain rfl : b3 = 0 := by
    by_cases hb : b3 = 0
    · exact hb
    · exact absurd (run_bad3 hb h1 h2 h3) (by rw [hr]; omega)
  obtain ⟨rfl, g3, e3, f3⟩ := fwd_fixed hl h3
  obtain ⟨v4, a4, b4, h4⟩ : ∃ x y z, rdFixed l ((0 + 8 + 8 + 8 : Nat) : Int) 0 = (x, y, z) := ⟨_, _, _, rfl⟩
  obtain rfl : b4 = 0 := by
    by_cases hb : b4 = 0
    · exact hb
    · exact absurd (run_bad4 hb h1 h2 h3 h4) (by rw [hr]; omega)
  obtain ⟨rfl, g4, e4, f4⟩ := fwd_fixed hl h4
  obtain ⟨v5, a5, b5, h5⟩ : ∃ x y z, rdText l ((0 + 8 + 8 + 8 + 8 : Nat) : Int) 0 = (x, y, z) := ⟨_, _, _, rfl⟩
  obtain rfl : b5 = 0 := by
    by_cases hb : b5 = 0
    · exact hb
    · exact absurd (run_bad5 hb h1 h2 h3 h4 h5) (by rw [hr]; omega)
  obtain ⟨m5, rfl, g5, e5⟩ := fwd_text h5
  obtain ⟨v6, a6, b6, h6⟩ : ∃ x y z, rdNum l ((0 + 8 + 8 + 8 + 8 + m5 : Nat) : Int) 0 = (x, y, z) := ⟨_, _, _, rfl⟩
  obtain rfl : b6 = 0 := by
    by_cases hb : b6 = 0
    · exact hb
    · exact absurd (run_bad6 hb h1 h2 h3 h4 h5 h6) (by rw [hr]; omega)
  obtain ⟨m6, rfl, g6, e6⟩ := fwd_num h6
  obtain ⟨v7, a7, b7, h7⟩ : ∃ x y z, rdNum l ((0 + 8 + 8 + 8 + 8 + m5 + m6 : Nat) : Int) 0 = (x, y, z) := ⟨_, _, _, rfl⟩
  obtain rfl : b7 = 0 := by
    by_cases hb : b7 = 0
    · exact hb
    · exact absurd (run_bad7 hb h1 h2 h3 h4 h5 h6 h7) (by rw [hr]; omega)
  obtain ⟨m7, rfl, g7, e7⟩ := fwd_num h7
  obtain ⟨v8, a8, b8, h8⟩ : ∃ x y z, rdNum l ((0 + 8 + 8 + 8 + 8 + m5 + m6 + m7 : Nat) : Int) 0 = (x, y, z) := ⟨_, _, _, rfl⟩
  obtain rfl : b8 = 0 := by
    by_cases hb : b8 = 0
    · exact hb
    · exact absurd (run_bad8 hb h1 h2 h3 h4 h5 h6 h7 h8) (by rw [hr]; omega)
  obtain ⟨m8, rfl, g8, e8⟩ := fwd_num h8
  obtain ⟨v9, a9, b9, h9⟩ : ∃ x y z, rdFlag l ((0 + 8 + 8 + 8 + 8 + m5 + m6 + m7 + m8 : Nat) : Int) 0 = (x, y, z) := ⟨_, _, _, rfl⟩
  obtain rfl : b9 = 0 := by
    by_cases hb : b9 = 0
    · exact hb
    · exact absurd (run_bad9 hb h1 h2 h3 h4 h5 h6 h7 h8 h9) (by rw [hr]; omega)
  obtain ⟨rfl, g9, e9⟩ := fwd_flag h9
  obtain ⟨v10, a10, b10, h10⟩ : ∃ x y z, rdNum l ((0 + 8 + 8 + 8 + 8 + m5 + m6 + m7 + m8 + 1 : Nat) : Int) 0 = (x, y, z) := ⟨_, _, _, rfl⟩
  obtain rfl : b10 = 0 := by
    by_cases hb : b10 = 0
    · exact hb
    · exact absurd (run_bad10 hb h1 h2 h3 h4 h5 h6 h7 h8 h9 h10) (by rw [hr]; omega)
  obtain ⟨m10, rfl, g10, e10⟩ := fwd_num h10
  obtain ⟨v11, a11, b11, h11⟩ : ∃ x y z, rdNum l ((0 + 8 + 8 + 8 + 8 + m5 + m6 + m7 + m8 + 1 + m10 : Nat) : Int) 0 = (x, y, z) := ⟨_, _, _, rfl⟩
  obtain rfl : b11 = 0 := by
    by_cases hb : b11 = 0
    · exact hb
    · exact absurd (run_bad11 hb h1 h2 h3 h4 h5 h6 h7 h8 h9 h10 h11) (by rw [hr]; omega)
  obtain ⟨m11, rfl, g11, e11⟩ := fwd_num h11
  have hg := run_good h1 h2 h3 h4 h5 h6 h7 h8 h9 h10 h11
  rw [hrun] at hg
  simp only [Prod.mk.injEq] at hg
  obtain ⟨rfl, rfl, hc⟩ := hg
  refine ⟨_, rfl, g11, hc.symm, ?_, ⟨f1, f2, f3, f4, ?_⟩⟩
  rotate_left
  · have := (check_zero hc.symm).2.2.1
    simp [nameOk] at this
    simp; omega
  simp only [spanBytes, Int.toNat_natCast]
  rw [show ((v10 : Int) + v11 - v10).toNat = v11 from by omega]
  have T : ∀ k m, l.take (k + m) = l.take k ++ (l.drop k).take m := fun k m => List.take_add
  rw [e1, e2, e3, e4, e5, e6, e7, e8, e9, e10, e11, T, T, T, T, T, T, T, T, T, T, T]
  simp only [List.append_assoc, List.take_zero, List.nil_append]

theorem write_good {s : Sp} (h : check s = 0) : write s = (spanBytes s, 0) := by unfold write; rw [if_pos h]
theorem write_bad {s : Sp} (h : ¬ check s = 0) : write s = ([], check s) := by unfold write; rw [if_neg h]

end Go.Proofs.Ytkhepehgafijfaa
